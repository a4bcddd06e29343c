/-
  No cell of these rows narrows 'for every input' (looked for: loops, veiled, ifaces, maps, wideKeys, modest, calm, conditions, laid).
  DERIVED. THE GIVEN ROWS OF THIS SEAT. 12 by the template 'for every input the law returns true; each argument reads behind the call as it read before'; 0 by the template 'total and deterministic' (their statements: YtpcoehbjbjfggaaTotals.lean).
  GIVEN WITH THE SEED: the statements are not yours to turn. If you find one false, say at which input.
  Laid BY PROGRAM, IN A SANDBOX (cutbox-rows.mjs): the forced cells as the released guide's own fill.sh prints them over the translation 9d54c929c405be11… (all of the seat's roots in one cut). By AI agents, Wed Nov 11 2026. No macro, syntax, notation, axiom, sorry.
-/
import Derived.Test.YtpcoehbjbjfggaaChecked
import GoSem.Claim
import GoSem.ClaimJoined
import GoSem.ClaimMapViews
import Derived.JoinedTies
import Derived.KernelRfl
namespace Go.Proofs.Ytpcoehbjbjfggaa
/- THE CELL 'sum', in the pinned program and in every row, IS THE sha256 OF THE DUMP (.gsa) THAT YtpcoehbjbjfggaaProg.lean LOADS. Nothing in Lean hashes anything: it is a label: what it is worth is what the hold of that sum in a sandbox is worth. -/
noncomputable def Try.pinned : Pinned := { name := "ytpcoehbjbjfggaa", sum := "9d54c929c405be11a6a3ce686b8e6a5c1df7b0942c10943dfe7c785d2870f0a4", checked := Try.checked }
namespace Rows
def none {H : Type} : Left H := { results := [], args := [] }

/-- 'nozzlelaw12.JoinBack': WHATEVER THE INPUT: true; the input reads as it did. -/
def joinBackSpec : ChangeSpec := { name := "joinBack", fn := fun _ => fun
  | [d1, d2] => { results := [.lit (.bool true)], args := [d1, d2] }
  | _ => none }
def joinBackRow : OpenClaim := { program := "ytpcoehbjbjfggaa", sum := "9d54c929c405be11a6a3ce686b8e6a5c1df7b0942c10943dfe7c785d2870f0a4", func := "nozzle/nozzlelaw12.JoinBack", spec := "joinBack", apart := false }
def JoinBackSaid : Prop := joinBackRow.holds Try.pinned (OpenSpec.ofChange joinBackSpec)

/-- ITS FALSE NEIGHBOUR: 'it returns false'. Refute it at one input. -/
def joinBackWrong : ChangeSpec := { name := "joinBack", fn := fun _ => fun
  | [d1, d2] => { results := [.lit (.bool false)], args := [d1, d2] }
  | _ => none }
def JoinBackWrongFalsely : Prop := joinBackRow.holds Try.pinned (OpenSpec.ofChange joinBackWrong)

/-- 'nozzlelaw12.JoinAll': WHATEVER THE INPUT: true; the input reads as it did. -/
def joinAllSpec : ChangeSpec := { name := "joinAll", fn := fun _ => fun
  | [d1, d2] => { results := [.lit (.bool true)], args := [d1, d2] }
  | _ => none }
def joinAllRow : OpenClaim := { program := "ytpcoehbjbjfggaa", sum := "9d54c929c405be11a6a3ce686b8e6a5c1df7b0942c10943dfe7c785d2870f0a4", func := "nozzle/nozzlelaw12.JoinAll", spec := "joinAll", apart := false }
def JoinAllSaid : Prop := joinAllRow.holds Try.pinned (OpenSpec.ofChange joinAllSpec)

/-- ITS FALSE NEIGHBOUR: 'it returns false'. Refute it at one input. -/
def joinAllWrong : ChangeSpec := { name := "joinAll", fn := fun _ => fun
  | [d1, d2] => { results := [.lit (.bool false)], args := [d1, d2] }
  | _ => none }
def JoinAllWrongFalsely : Prop := joinAllRow.holds Try.pinned (OpenSpec.ofChange joinAllWrong)

/-- 'nozzlelaw05.DrawsRuns': WHATEVER THE INPUT: true; the input reads as it did. -/
def drawsRunsSpec : ChangeSpec := { name := "drawsRuns", fn := fun _ => fun
  | [d1, d2] => { results := [.lit (.bool true)], args := [d1, d2] }
  | _ => none }
def drawsRunsRow : OpenClaim := { program := "ytpcoehbjbjfggaa", sum := "9d54c929c405be11a6a3ce686b8e6a5c1df7b0942c10943dfe7c785d2870f0a4", func := "nozzle/nozzlelaw05.DrawsRuns", spec := "drawsRuns", unfollowed := true, recurses := true, apart := false }
def DrawsRunsSaid : Prop := drawsRunsRow.holds Try.pinned (OpenSpec.ofChange drawsRunsSpec)

/-- ITS FALSE NEIGHBOUR: 'it returns false'. Refute it at one input. -/
def drawsRunsWrong : ChangeSpec := { name := "drawsRuns", fn := fun _ => fun
  | [d1, d2] => { results := [.lit (.bool false)], args := [d1, d2] }
  | _ => none }
def DrawsRunsWrongFalsely : Prop := drawsRunsRow.holds Try.pinned (OpenSpec.ofChange drawsRunsWrong)

/-- 'nozzlelaw05.DrawsKeep': WHATEVER THE INPUT: true; the input reads as it did. -/
def drawsKeepSpec : ChangeSpec := { name := "drawsKeep", fn := fun _ => fun
  | [d1, d2] => { results := [.lit (.bool true)], args := [d1, d2] }
  | _ => none }
def drawsKeepRow : OpenClaim := { program := "ytpcoehbjbjfggaa", sum := "9d54c929c405be11a6a3ce686b8e6a5c1df7b0942c10943dfe7c785d2870f0a4", func := "nozzle/nozzlelaw05.DrawsKeep", spec := "drawsKeep", unfollowed := true, recurses := true, apart := false }
def DrawsKeepSaid : Prop := drawsKeepRow.holds Try.pinned (OpenSpec.ofChange drawsKeepSpec)

/-- ITS FALSE NEIGHBOUR: 'it returns false'. Refute it at one input. -/
def drawsKeepWrong : ChangeSpec := { name := "drawsKeep", fn := fun _ => fun
  | [d1, d2] => { results := [.lit (.bool false)], args := [d1, d2] }
  | _ => none }
def DrawsKeepWrongFalsely : Prop := drawsKeepRow.holds Try.pinned (OpenSpec.ofChange drawsKeepWrong)

/-- 'nozzlelaw12.JoinRuns': WHATEVER THE INPUT: true; the input reads as it did. -/
def joinRunsSpec : ChangeSpec := { name := "joinRuns", fn := fun _ => fun
  | [d1, d2] => { results := [.lit (.bool true)], args := [d1, d2] }
  | _ => none }
def joinRunsRow : OpenClaim := { program := "ytpcoehbjbjfggaa", sum := "9d54c929c405be11a6a3ce686b8e6a5c1df7b0942c10943dfe7c785d2870f0a4", func := "nozzle/nozzlelaw12.JoinRuns", spec := "joinRuns", apart := false }
def JoinRunsSaid : Prop := joinRunsRow.holds Try.pinned (OpenSpec.ofChange joinRunsSpec)

/-- ITS FALSE NEIGHBOUR: 'it returns false'. Refute it at one input. -/
def joinRunsWrong : ChangeSpec := { name := "joinRuns", fn := fun _ => fun
  | [d1, d2] => { results := [.lit (.bool false)], args := [d1, d2] }
  | _ => none }
def JoinRunsWrongFalsely : Prop := joinRunsRow.holds Try.pinned (OpenSpec.ofChange joinRunsWrong)

/-- 'nozzlelaw12.JoinNobody': WHATEVER THE INPUT: true; the input reads as it did. -/
def joinNobodySpec : ChangeSpec := { name := "joinNobody", fn := fun _ => fun
  | [d1, d2] => { results := [.lit (.bool true)], args := [d1, d2] }
  | _ => none }
def joinNobodyRow : OpenClaim := { program := "ytpcoehbjbjfggaa", sum := "9d54c929c405be11a6a3ce686b8e6a5c1df7b0942c10943dfe7c785d2870f0a4", func := "nozzle/nozzlelaw12.JoinNobody", spec := "joinNobody", apart := false }
def JoinNobodySaid : Prop := joinNobodyRow.holds Try.pinned (OpenSpec.ofChange joinNobodySpec)

/-- ITS FALSE NEIGHBOUR: 'it returns false'. Refute it at one input. -/
def joinNobodyWrong : ChangeSpec := { name := "joinNobody", fn := fun _ => fun
  | [d1, d2] => { results := [.lit (.bool false)], args := [d1, d2] }
  | _ => none }
def JoinNobodyWrongFalsely : Prop := joinNobodyRow.holds Try.pinned (OpenSpec.ofChange joinNobodyWrong)

/-- 'nozzlelaw10.BitmapOrder': WHATEVER THE INPUT: true; the input reads as it did. -/
def bitmapOrderSpec : ChangeSpec := { name := "bitmapOrder", fn := fun _ => fun
  | [d1, d2, d3] => { results := [.lit (.bool true)], args := [d1, d2, d3] }
  | _ => none }
def bitmapOrderRow : OpenClaim := { program := "ytpcoehbjbjfggaa", sum := "9d54c929c405be11a6a3ce686b8e6a5c1df7b0942c10943dfe7c785d2870f0a4", func := "nozzle/nozzlelaw10.BitmapOrder", spec := "bitmapOrder", unfollowed := true, recurses := true, apart := false }
def BitmapOrderSaid : Prop := bitmapOrderRow.holds Try.pinned (OpenSpec.ofChange bitmapOrderSpec)

/-- ITS FALSE NEIGHBOUR: 'it returns false'. Refute it at one input. -/
def bitmapOrderWrong : ChangeSpec := { name := "bitmapOrder", fn := fun _ => fun
  | [d1, d2, d3] => { results := [.lit (.bool false)], args := [d1, d2, d3] }
  | _ => none }
def BitmapOrderWrongFalsely : Prop := bitmapOrderRow.holds Try.pinned (OpenSpec.ofChange bitmapOrderWrong)

/-- 'nozzlelaw10.BitmapRuns': WHATEVER THE INPUT: true; the input reads as it did. -/
def bitmapRunsSpec : ChangeSpec := { name := "bitmapRuns", fn := fun _ => fun
  | [d1, d2, d3, d4] => { results := [.lit (.bool true)], args := [d1, d2, d3, d4] }
  | _ => none }
def bitmapRunsRow : OpenClaim := { program := "ytpcoehbjbjfggaa", sum := "9d54c929c405be11a6a3ce686b8e6a5c1df7b0942c10943dfe7c785d2870f0a4", func := "nozzle/nozzlelaw10.BitmapRuns", spec := "bitmapRuns", unfollowed := true, recurses := true, apart := false }
def BitmapRunsSaid : Prop := bitmapRunsRow.holds Try.pinned (OpenSpec.ofChange bitmapRunsSpec)

/-- ITS FALSE NEIGHBOUR: 'it returns false'. Refute it at one input. -/
def bitmapRunsWrong : ChangeSpec := { name := "bitmapRuns", fn := fun _ => fun
  | [d1, d2, d3, d4] => { results := [.lit (.bool false)], args := [d1, d2, d3, d4] }
  | _ => none }
def BitmapRunsWrongFalsely : Prop := bitmapRunsRow.holds Try.pinned (OpenSpec.ofChange bitmapRunsWrong)

/-- 'nozzlelaw10.BitmapNobody': WHATEVER THE INPUT: true; the input reads as it did. -/
def bitmapNobodySpec : ChangeSpec := { name := "bitmapNobody", fn := fun _ => fun
  | [d] => { results := [.lit (.bool true)], args := [d] }
  | _ => none }
def bitmapNobodyRow : OpenClaim := { program := "ytpcoehbjbjfggaa", sum := "9d54c929c405be11a6a3ce686b8e6a5c1df7b0942c10943dfe7c785d2870f0a4", func := "nozzle/nozzlelaw10.BitmapNobody", spec := "bitmapNobody", unfollowed := true, recurses := true, apart := false }
def BitmapNobodySaid : Prop := bitmapNobodyRow.holds Try.pinned (OpenSpec.ofChange bitmapNobodySpec)

/-- ITS FALSE NEIGHBOUR: 'it returns false'. Refute it at one input. -/
def bitmapNobodyWrong : ChangeSpec := { name := "bitmapNobody", fn := fun _ => fun
  | [d] => { results := [.lit (.bool false)], args := [d] }
  | _ => none }
def BitmapNobodyWrongFalsely : Prop := bitmapNobodyRow.holds Try.pinned (OpenSpec.ofChange bitmapNobodyWrong)

/-- 'nozzlelaw06.PermRounds': WHATEVER THE INPUT: true; the input reads as it did. -/
def permRoundsSpec : ChangeSpec := { name := "permRounds", fn := fun _ => fun
  | [d1, d2, d3] => { results := [.lit (.bool true)], args := [d1, d2, d3] }
  | _ => none }
def permRoundsRow : OpenClaim := { program := "ytpcoehbjbjfggaa", sum := "9d54c929c405be11a6a3ce686b8e6a5c1df7b0942c10943dfe7c785d2870f0a4", func := "nozzle/nozzlelaw06.PermRounds", spec := "permRounds", unfollowed := true, recurses := true, apart := false }
def PermRoundsSaid : Prop := permRoundsRow.holds Try.pinned (OpenSpec.ofChange permRoundsSpec)

/-- ITS FALSE NEIGHBOUR: 'it returns false'. Refute it at one input. -/
def permRoundsWrong : ChangeSpec := { name := "permRounds", fn := fun _ => fun
  | [d1, d2, d3] => { results := [.lit (.bool false)], args := [d1, d2, d3] }
  | _ => none }
def PermRoundsWrongFalsely : Prop := permRoundsRow.holds Try.pinned (OpenSpec.ofChange permRoundsWrong)

/-- 'nozzlelaw06.PermRuns': WHATEVER THE INPUT: true; the input reads as it did. -/
def permRunsSpec : ChangeSpec := { name := "permRuns", fn := fun _ => fun
  | [d1, d2, d3] => { results := [.lit (.bool true)], args := [d1, d2, d3] }
  | _ => none }
def permRunsRow : OpenClaim := { program := "ytpcoehbjbjfggaa", sum := "9d54c929c405be11a6a3ce686b8e6a5c1df7b0942c10943dfe7c785d2870f0a4", func := "nozzle/nozzlelaw06.PermRuns", spec := "permRuns", unfollowed := true, recurses := true, apart := false }
def PermRunsSaid : Prop := permRunsRow.holds Try.pinned (OpenSpec.ofChange permRunsSpec)

/-- ITS FALSE NEIGHBOUR: 'it returns false'. Refute it at one input. -/
def permRunsWrong : ChangeSpec := { name := "permRuns", fn := fun _ => fun
  | [d1, d2, d3] => { results := [.lit (.bool false)], args := [d1, d2, d3] }
  | _ => none }
def PermRunsWrongFalsely : Prop := permRunsRow.holds Try.pinned (OpenSpec.ofChange permRunsWrong)

/-- 'nozzlelaw06.PermNobody': WHATEVER THE INPUT: true; the input reads as it did. -/
def permNobodySpec : ChangeSpec := { name := "permNobody", fn := fun _ => fun
  | [d] => { results := [.lit (.bool true)], args := [d] }
  | _ => none }
def permNobodyRow : OpenClaim := { program := "ytpcoehbjbjfggaa", sum := "9d54c929c405be11a6a3ce686b8e6a5c1df7b0942c10943dfe7c785d2870f0a4", func := "nozzle/nozzlelaw06.PermNobody", spec := "permNobody", unfollowed := true, recurses := true, apart := false }
def PermNobodySaid : Prop := permNobodyRow.holds Try.pinned (OpenSpec.ofChange permNobodySpec)

/-- ITS FALSE NEIGHBOUR: 'it returns false'. Refute it at one input. -/
def permNobodyWrong : ChangeSpec := { name := "permNobody", fn := fun _ => fun
  | [d] => { results := [.lit (.bool false)], args := [d] }
  | _ => none }
def PermNobodyWrongFalsely : Prop := permNobodyRow.holds Try.pinned (OpenSpec.ofChange permNobodyWrong)

/- THE SECOND FORM. 'bulk': how many values and letters a reading holds, each counted each time it is reached (what is shared counts as often as it is met; a slice's spare places count too). A statement '..UptoSaid' is the law's where the arguments, and the package variables that the reading takes, are together of bulk at most 1048576: NARROWER than '..Said'. Prove '..Said' where nothing that the law and all that it calls make is longer than what came in: it says more and counts as full. Else prove '..UptoSaid'. A law counts once. -/
mutual
def uptoBulk {H : Type} : DataW H → Nat
  | .lit (.string bytes) => bytes.length + 1
  | .lit _ => 1
  | .nil => 1
  | .ptr d => uptoBulk d + 1
  | .slice elems spare => uptoBulkAll elems + uptoBulkAll spare + 1
  | .agg parts => uptoBulkAll parts + 1
  | .iface _ d => uptoBulk d + 1
  | .map entries => uptoBulkEntries entries + 1
  | .held _ => 1
def uptoBulkAll {H : Type} : List (DataW H) → Nat
  | [] => 0
  | d :: r => uptoBulk d + uptoBulkAll r
def uptoBulkEntries {H : Type} : List (Lit × DataW H) → Nat
  | [] => 0
  | x :: r => uptoBulkEntry x + uptoBulkEntries r
def uptoBulkEntry {H : Type} : Lit × DataW H → Nat
  | (.string bytes, d) => bytes.length + uptoBulk d + 1
  | (_, d) => uptoBulk d + 1
 end
def uptoSmall : (H : Type) → List (DataW H) → Bool := fun _ ds => decide (uptoBulkAll ds ≤ 1048576)
def OpenSpec.upto (s : _root_.Go.ChangeSpec) : _root_.Go.OpenSpec := { _root_.Go.OpenSpec.ofChange s with cond := some uptoSmall }

/-- 'nozzlelaw12.JoinBack', WHERE WHAT IT READS IS OF BULK AT MOST 1048576: true; the input reads as it did. -/
def joinBackUptoRow : OpenClaim := { program := "ytpcoehbjbjfggaa", sum := "9d54c929c405be11a6a3ce686b8e6a5c1df7b0942c10943dfe7c785d2870f0a4", func := "nozzle/nozzlelaw12.JoinBack", spec := "joinBack", apart := false, narrowed := true }
def JoinBackUptoSaid : Prop := joinBackUptoRow.holds Try.pinned (OpenSpec.upto joinBackSpec)

/-- 'nozzlelaw12.JoinAll', WHERE WHAT IT READS IS OF BULK AT MOST 1048576: true; the input reads as it did. -/
def joinAllUptoRow : OpenClaim := { program := "ytpcoehbjbjfggaa", sum := "9d54c929c405be11a6a3ce686b8e6a5c1df7b0942c10943dfe7c785d2870f0a4", func := "nozzle/nozzlelaw12.JoinAll", spec := "joinAll", apart := false, narrowed := true }
def JoinAllUptoSaid : Prop := joinAllUptoRow.holds Try.pinned (OpenSpec.upto joinAllSpec)

/-- 'nozzlelaw05.DrawsRuns', WHERE WHAT IT READS IS OF BULK AT MOST 1048576: true; the input reads as it did. -/
def drawsRunsUptoRow : OpenClaim := { program := "ytpcoehbjbjfggaa", sum := "9d54c929c405be11a6a3ce686b8e6a5c1df7b0942c10943dfe7c785d2870f0a4", func := "nozzle/nozzlelaw05.DrawsRuns", spec := "drawsRuns", unfollowed := true, recurses := true, apart := false, narrowed := true }
def DrawsRunsUptoSaid : Prop := drawsRunsUptoRow.holds Try.pinned (OpenSpec.upto drawsRunsSpec)

/-- 'nozzlelaw05.DrawsKeep', WHERE WHAT IT READS IS OF BULK AT MOST 1048576: true; the input reads as it did. -/
def drawsKeepUptoRow : OpenClaim := { program := "ytpcoehbjbjfggaa", sum := "9d54c929c405be11a6a3ce686b8e6a5c1df7b0942c10943dfe7c785d2870f0a4", func := "nozzle/nozzlelaw05.DrawsKeep", spec := "drawsKeep", unfollowed := true, recurses := true, apart := false, narrowed := true }
def DrawsKeepUptoSaid : Prop := drawsKeepUptoRow.holds Try.pinned (OpenSpec.upto drawsKeepSpec)

/-- 'nozzlelaw12.JoinRuns', WHERE WHAT IT READS IS OF BULK AT MOST 1048576: true; the input reads as it did. -/
def joinRunsUptoRow : OpenClaim := { program := "ytpcoehbjbjfggaa", sum := "9d54c929c405be11a6a3ce686b8e6a5c1df7b0942c10943dfe7c785d2870f0a4", func := "nozzle/nozzlelaw12.JoinRuns", spec := "joinRuns", apart := false, narrowed := true }
def JoinRunsUptoSaid : Prop := joinRunsUptoRow.holds Try.pinned (OpenSpec.upto joinRunsSpec)

/-- 'nozzlelaw12.JoinNobody', WHERE WHAT IT READS IS OF BULK AT MOST 1048576: true; the input reads as it did. -/
def joinNobodyUptoRow : OpenClaim := { program := "ytpcoehbjbjfggaa", sum := "9d54c929c405be11a6a3ce686b8e6a5c1df7b0942c10943dfe7c785d2870f0a4", func := "nozzle/nozzlelaw12.JoinNobody", spec := "joinNobody", apart := false, narrowed := true }
def JoinNobodyUptoSaid : Prop := joinNobodyUptoRow.holds Try.pinned (OpenSpec.upto joinNobodySpec)

/-- 'nozzlelaw10.BitmapOrder', WHERE WHAT IT READS IS OF BULK AT MOST 1048576: true; the input reads as it did. -/
def bitmapOrderUptoRow : OpenClaim := { program := "ytpcoehbjbjfggaa", sum := "9d54c929c405be11a6a3ce686b8e6a5c1df7b0942c10943dfe7c785d2870f0a4", func := "nozzle/nozzlelaw10.BitmapOrder", spec := "bitmapOrder", unfollowed := true, recurses := true, apart := false, narrowed := true }
def BitmapOrderUptoSaid : Prop := bitmapOrderUptoRow.holds Try.pinned (OpenSpec.upto bitmapOrderSpec)

/-- 'nozzlelaw10.BitmapRuns', WHERE WHAT IT READS IS OF BULK AT MOST 1048576: true; the input reads as it did. -/
def bitmapRunsUptoRow : OpenClaim := { program := "ytpcoehbjbjfggaa", sum := "9d54c929c405be11a6a3ce686b8e6a5c1df7b0942c10943dfe7c785d2870f0a4", func := "nozzle/nozzlelaw10.BitmapRuns", spec := "bitmapRuns", unfollowed := true, recurses := true, apart := false, narrowed := true }
def BitmapRunsUptoSaid : Prop := bitmapRunsUptoRow.holds Try.pinned (OpenSpec.upto bitmapRunsSpec)

/-- 'nozzlelaw10.BitmapNobody', WHERE WHAT IT READS IS OF BULK AT MOST 1048576: true; the input reads as it did. -/
def bitmapNobodyUptoRow : OpenClaim := { program := "ytpcoehbjbjfggaa", sum := "9d54c929c405be11a6a3ce686b8e6a5c1df7b0942c10943dfe7c785d2870f0a4", func := "nozzle/nozzlelaw10.BitmapNobody", spec := "bitmapNobody", unfollowed := true, recurses := true, apart := false, narrowed := true }
def BitmapNobodyUptoSaid : Prop := bitmapNobodyUptoRow.holds Try.pinned (OpenSpec.upto bitmapNobodySpec)

/-- 'nozzlelaw06.PermRounds', WHERE WHAT IT READS IS OF BULK AT MOST 1048576: true; the input reads as it did. -/
def permRoundsUptoRow : OpenClaim := { program := "ytpcoehbjbjfggaa", sum := "9d54c929c405be11a6a3ce686b8e6a5c1df7b0942c10943dfe7c785d2870f0a4", func := "nozzle/nozzlelaw06.PermRounds", spec := "permRounds", unfollowed := true, recurses := true, apart := false, narrowed := true }
def PermRoundsUptoSaid : Prop := permRoundsUptoRow.holds Try.pinned (OpenSpec.upto permRoundsSpec)

/-- 'nozzlelaw06.PermRuns', WHERE WHAT IT READS IS OF BULK AT MOST 1048576: true; the input reads as it did. -/
def permRunsUptoRow : OpenClaim := { program := "ytpcoehbjbjfggaa", sum := "9d54c929c405be11a6a3ce686b8e6a5c1df7b0942c10943dfe7c785d2870f0a4", func := "nozzle/nozzlelaw06.PermRuns", spec := "permRuns", unfollowed := true, recurses := true, apart := false, narrowed := true }
def PermRunsUptoSaid : Prop := permRunsUptoRow.holds Try.pinned (OpenSpec.upto permRunsSpec)

/-- 'nozzlelaw06.PermNobody', WHERE WHAT IT READS IS OF BULK AT MOST 1048576: true; the input reads as it did. -/
def permNobodyUptoRow : OpenClaim := { program := "ytpcoehbjbjfggaa", sum := "9d54c929c405be11a6a3ce686b8e6a5c1df7b0942c10943dfe7c785d2870f0a4", func := "nozzle/nozzlelaw06.PermNobody", spec := "permNobody", unfollowed := true, recurses := true, apart := false, narrowed := true }
def PermNobodyUptoSaid : Prop := permNobodyUptoRow.holds Try.pinned (OpenSpec.upto permNobodySpec)

end Rows
end Go.Proofs.Ytpcoehbjbjfggaa
