/-
  No cell of these rows narrows 'for every input' (looked for: loops, veiled, ifaces, maps, wideKeys, modest, calm, conditions, laid).
  DERIVED. THE GIVEN ROWS OF THIS SEAT. 6 by the template 'for every input the law returns true; each argument reads behind the call as it read before'; 0 by the template 'total and deterministic' (their statements: YtkiplbhnnjfjaaaTotals.lean).
  GIVEN WITH THE SEED: the statements are not yours to turn. If you find one false, say at which input.
  Laid BY PROGRAM, IN A SANDBOX (cutbox-rows.mjs): the forced cells as the released guide's own fill.sh prints them over the translation e4685c634b7f3719… (all of the seat's roots in one cut). By AI agents, Wed Nov 11 2026. No macro, syntax, notation, axiom, sorry.
-/
import Derived.Test.YtkiplbhnnjfjaaaChecked
import GoSem.Claim
import GoSem.ClaimJoined
import GoSem.ClaimMapViews
import Derived.JoinedTies
import Derived.KernelRfl
namespace Go.Proofs.Ytkiplbhnnjfjaaa
/- THE CELL 'sum', in the pinned program and in every row, IS THE sha256 OF THE DUMP (.gsa) THAT YtkiplbhnnjfjaaaProg.lean LOADS. Nothing in Lean hashes anything: it is a label: what it is worth is what the hold of that sum in a sandbox is worth. -/
noncomputable def Try.pinned : Pinned := { name := "ytkiplbhnnjfjaaa", sum := "e4685c634b7f37193d152e99abe7f341f9ce37a8ab11b24f67a63df7998e6f16", checked := Try.checked }
namespace Rows
def none {H : Type} : Left H := { results := [], args := [] }

/-- 'nozzlelaw34.SackMany': WHATEVER THE INPUT: true; the input reads as it did. -/
def sackManySpec : ChangeSpec := { name := "sackMany", fn := fun _ => fun
  | [d] => { results := [.lit (.bool true)], args := [d] }
  | _ => none }
def sackManyRow : OpenClaim := { program := "ytkiplbhnnjfjaaa", sum := "e4685c634b7f37193d152e99abe7f341f9ce37a8ab11b24f67a63df7998e6f16", func := "nozzle/nozzlelaw34.SackMany", spec := "sackMany", unfollowed := true, recurses := true, apart := false }
def SackManySaid : Prop := sackManyRow.holds Try.pinned (OpenSpec.ofChange sackManySpec)

/-- ITS FALSE NEIGHBOUR: 'it returns false'. Refute it at one input. -/
def sackManyWrong : ChangeSpec := { name := "sackMany", fn := fun _ => fun
  | [d] => { results := [.lit (.bool false)], args := [d] }
  | _ => none }
def SackManyWrongFalsely : Prop := sackManyRow.holds Try.pinned (OpenSpec.ofChange sackManyWrong)

/-- 'nozzlelaw34.SackOf': WHATEVER THE INPUT: true; the input reads as it did. -/
def sackOfSpec : ChangeSpec := { name := "sackOf", fn := fun _ => fun
  | [d1, d2] => { results := [.lit (.bool true)], args := [d1, d2] }
  | _ => none }
def sackOfRow : OpenClaim := { program := "ytkiplbhnnjfjaaa", sum := "e4685c634b7f37193d152e99abe7f341f9ce37a8ab11b24f67a63df7998e6f16", func := "nozzle/nozzlelaw34.SackOf", spec := "sackOf", unfollowed := true, recurses := true, apart := false }
def SackOfSaid : Prop := sackOfRow.holds Try.pinned (OpenSpec.ofChange sackOfSpec)

/-- ITS FALSE NEIGHBOUR: 'it returns false'. Refute it at one input. -/
def sackOfWrong : ChangeSpec := { name := "sackOf", fn := fun _ => fun
  | [d1, d2] => { results := [.lit (.bool false)], args := [d1, d2] }
  | _ => none }
def SackOfWrongFalsely : Prop := sackOfRow.holds Try.pinned (OpenSpec.ofChange sackOfWrong)

/-- 'nozzlelaw34.SackRows': WHATEVER THE INPUT: true; the input reads as it did. -/
def sackRowsSpec : ChangeSpec := { name := "sackRows", fn := fun _ => fun
  | [d1, d2, d3, d4] => { results := [.lit (.bool true)], args := [d1, d2, d3, d4] }
  | _ => none }
def sackRowsRow : OpenClaim := { program := "ytkiplbhnnjfjaaa", sum := "e4685c634b7f37193d152e99abe7f341f9ce37a8ab11b24f67a63df7998e6f16", func := "nozzle/nozzlelaw34.SackRows", spec := "sackRows", unfollowed := true, recurses := true, apart := false }
def SackRowsSaid : Prop := sackRowsRow.holds Try.pinned (OpenSpec.ofChange sackRowsSpec)

/-- ITS FALSE NEIGHBOUR: 'it returns false'. Refute it at one input. -/
def sackRowsWrong : ChangeSpec := { name := "sackRows", fn := fun _ => fun
  | [d1, d2, d3, d4] => { results := [.lit (.bool false)], args := [d1, d2, d3, d4] }
  | _ => none }
def SackRowsWrongFalsely : Prop := sackRowsRow.holds Try.pinned (OpenSpec.ofChange sackRowsWrong)

/-- 'nozzlelaw34.SackSets': WHATEVER THE INPUT: true; the input reads as it did. -/
def sackSetsSpec : ChangeSpec := { name := "sackSets", fn := fun _ => fun
  | [d1, d2, d3] => { results := [.lit (.bool true)], args := [d1, d2, d3] }
  | _ => none }
def sackSetsRow : OpenClaim := { program := "ytkiplbhnnjfjaaa", sum := "e4685c634b7f37193d152e99abe7f341f9ce37a8ab11b24f67a63df7998e6f16", func := "nozzle/nozzlelaw34.SackSets", spec := "sackSets", unfollowed := true, recurses := true, apart := false }
def SackSetsSaid : Prop := sackSetsRow.holds Try.pinned (OpenSpec.ofChange sackSetsSpec)

/-- ITS FALSE NEIGHBOUR: 'it returns false'. Refute it at one input. -/
def sackSetsWrong : ChangeSpec := { name := "sackSets", fn := fun _ => fun
  | [d1, d2, d3] => { results := [.lit (.bool false)], args := [d1, d2, d3] }
  | _ => none }
def SackSetsWrongFalsely : Prop := sackSetsRow.holds Try.pinned (OpenSpec.ofChange sackSetsWrong)

/-- 'nozzlelaw34.SackLaws': WHATEVER THE INPUT: true; the input reads as it did. -/
def sackLawsSpec : ChangeSpec := { name := "sackLaws", fn := fun _ => fun
  | [d1, d2, d3, d4] => { results := [.lit (.bool true)], args := [d1, d2, d3, d4] }
  | _ => none }
def sackLawsRow : OpenClaim := { program := "ytkiplbhnnjfjaaa", sum := "e4685c634b7f37193d152e99abe7f341f9ce37a8ab11b24f67a63df7998e6f16", func := "nozzle/nozzlelaw34.SackLaws", spec := "sackLaws", unfollowed := true, recurses := true, apart := false }
def SackLawsSaid : Prop := sackLawsRow.holds Try.pinned (OpenSpec.ofChange sackLawsSpec)

/-- ITS FALSE NEIGHBOUR: 'it returns false'. Refute it at one input. -/
def sackLawsWrong : ChangeSpec := { name := "sackLaws", fn := fun _ => fun
  | [d1, d2, d3, d4] => { results := [.lit (.bool false)], args := [d1, d2, d3, d4] }
  | _ => none }
def SackLawsWrongFalsely : Prop := sackLawsRow.holds Try.pinned (OpenSpec.ofChange sackLawsWrong)

/-- 'nozzlelaw34.SackCodes': WHATEVER THE INPUT: true; the input reads as it did. -/
def sackCodesSpec : ChangeSpec := { name := "sackCodes", fn := fun _ => fun
  | [d1, d2] => { results := [.lit (.bool true)], args := [d1, d2] }
  | _ => none }
def sackCodesRow : OpenClaim := { program := "ytkiplbhnnjfjaaa", sum := "e4685c634b7f37193d152e99abe7f341f9ce37a8ab11b24f67a63df7998e6f16", func := "nozzle/nozzlelaw34.SackCodes", spec := "sackCodes", unfollowed := true, recurses := true, apart := false }
def SackCodesSaid : Prop := sackCodesRow.holds Try.pinned (OpenSpec.ofChange sackCodesSpec)

/-- ITS FALSE NEIGHBOUR: 'it returns false'. Refute it at one input. -/
def sackCodesWrong : ChangeSpec := { name := "sackCodes", fn := fun _ => fun
  | [d1, d2] => { results := [.lit (.bool false)], args := [d1, d2] }
  | _ => none }
def SackCodesWrongFalsely : Prop := sackCodesRow.holds Try.pinned (OpenSpec.ofChange sackCodesWrong)

/- THE SECOND FORM. 'bulk': how many values and letters a reading holds, each counted each time it is reached (what is shared counts as often as it is met; a slice's spare places count too). A statement '..UptoSaid' is the law's where the arguments, and the package variables that the reading takes, are together of bulk at most 1048576: NARROWER than '..Said'. Prove '..Said' where nothing that the law and all that it calls make is longer than what came in: it says more and counts as full. Else prove '..UptoSaid'. A law counts once. -/
mutual
def uptoBulk {H : Type} : DataW H → Nat
  | .lit (.string bytes) => bytes.length + 1
  | .lit _ => 1
  | .nil => 1
  | .ptr d => uptoBulk d + 1
  | .slice elems spare => uptoBulkAll elems + uptoBulkAll spare + 1
  | .agg parts => uptoBulkAll parts + 1
  | .iface _ d => uptoBulk d + 1
  | .map entries => uptoBulkEntries entries + 1
  | .held _ => 1
def uptoBulkAll {H : Type} : List (DataW H) → Nat
  | [] => 0
  | d :: r => uptoBulk d + uptoBulkAll r
def uptoBulkEntries {H : Type} : List (Lit × DataW H) → Nat
  | [] => 0
  | x :: r => uptoBulkEntry x + uptoBulkEntries r
def uptoBulkEntry {H : Type} : Lit × DataW H → Nat
  | (.string bytes, d) => bytes.length + uptoBulk d + 1
  | (_, d) => uptoBulk d + 1
 end
def uptoSmall : (H : Type) → List (DataW H) → Bool := fun _ ds => decide (uptoBulkAll ds ≤ 1048576)
def OpenSpec.upto (s : _root_.Go.ChangeSpec) : _root_.Go.OpenSpec := { _root_.Go.OpenSpec.ofChange s with cond := some uptoSmall }

/-- 'nozzlelaw34.SackMany', WHERE WHAT IT READS IS OF BULK AT MOST 1048576: true; the input reads as it did. -/
def sackManyUptoRow : OpenClaim := { program := "ytkiplbhnnjfjaaa", sum := "e4685c634b7f37193d152e99abe7f341f9ce37a8ab11b24f67a63df7998e6f16", func := "nozzle/nozzlelaw34.SackMany", spec := "sackMany", unfollowed := true, recurses := true, apart := false, narrowed := true }
def SackManyUptoSaid : Prop := sackManyUptoRow.holds Try.pinned (OpenSpec.upto sackManySpec)

/-- 'nozzlelaw34.SackOf', WHERE WHAT IT READS IS OF BULK AT MOST 1048576: true; the input reads as it did. -/
def sackOfUptoRow : OpenClaim := { program := "ytkiplbhnnjfjaaa", sum := "e4685c634b7f37193d152e99abe7f341f9ce37a8ab11b24f67a63df7998e6f16", func := "nozzle/nozzlelaw34.SackOf", spec := "sackOf", unfollowed := true, recurses := true, apart := false, narrowed := true }
def SackOfUptoSaid : Prop := sackOfUptoRow.holds Try.pinned (OpenSpec.upto sackOfSpec)

/-- 'nozzlelaw34.SackRows', WHERE WHAT IT READS IS OF BULK AT MOST 1048576: true; the input reads as it did. -/
def sackRowsUptoRow : OpenClaim := { program := "ytkiplbhnnjfjaaa", sum := "e4685c634b7f37193d152e99abe7f341f9ce37a8ab11b24f67a63df7998e6f16", func := "nozzle/nozzlelaw34.SackRows", spec := "sackRows", unfollowed := true, recurses := true, apart := false, narrowed := true }
def SackRowsUptoSaid : Prop := sackRowsUptoRow.holds Try.pinned (OpenSpec.upto sackRowsSpec)

/-- 'nozzlelaw34.SackSets', WHERE WHAT IT READS IS OF BULK AT MOST 1048576: true; the input reads as it did. -/
def sackSetsUptoRow : OpenClaim := { program := "ytkiplbhnnjfjaaa", sum := "e4685c634b7f37193d152e99abe7f341f9ce37a8ab11b24f67a63df7998e6f16", func := "nozzle/nozzlelaw34.SackSets", spec := "sackSets", unfollowed := true, recurses := true, apart := false, narrowed := true }
def SackSetsUptoSaid : Prop := sackSetsUptoRow.holds Try.pinned (OpenSpec.upto sackSetsSpec)

/-- 'nozzlelaw34.SackLaws', WHERE WHAT IT READS IS OF BULK AT MOST 1048576: true; the input reads as it did. -/
def sackLawsUptoRow : OpenClaim := { program := "ytkiplbhnnjfjaaa", sum := "e4685c634b7f37193d152e99abe7f341f9ce37a8ab11b24f67a63df7998e6f16", func := "nozzle/nozzlelaw34.SackLaws", spec := "sackLaws", unfollowed := true, recurses := true, apart := false, narrowed := true }
def SackLawsUptoSaid : Prop := sackLawsUptoRow.holds Try.pinned (OpenSpec.upto sackLawsSpec)

/-- 'nozzlelaw34.SackCodes', WHERE WHAT IT READS IS OF BULK AT MOST 1048576: true; the input reads as it did. -/
def sackCodesUptoRow : OpenClaim := { program := "ytkiplbhnnjfjaaa", sum := "e4685c634b7f37193d152e99abe7f341f9ce37a8ab11b24f67a63df7998e6f16", func := "nozzle/nozzlelaw34.SackCodes", spec := "sackCodes", unfollowed := true, recurses := true, apart := false, narrowed := true }
def SackCodesUptoSaid : Prop := sackCodesUptoRow.holds Try.pinned (OpenSpec.upto sackCodesSpec)

end Rows
end Go.Proofs.Ytkiplbhnnjfjaaa
