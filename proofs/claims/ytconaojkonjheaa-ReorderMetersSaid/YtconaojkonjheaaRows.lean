/-
  No cell of these rows narrows 'for every input' (looked for: loops, veiled, ifaces, maps, wideKeys, modest, calm, conditions, laid).
  DERIVED. THE GIVEN ROWS OF THIS SEAT. 6 by the template 'for every input the law returns true; each argument reads behind the call as it read before'; 0 by the template 'total and deterministic' (their statements: YtconaojkonjheaaTotals.lean).
  GIVEN WITH THE SEED: the statements are not yours to turn. If you find one false, say at which input.
  Laid BY PROGRAM, IN A SANDBOX (cutbox-rows.mjs): the forced cells as the released guide's own fill.sh prints them over the translation 7916da86028de80f… (all of the seat's roots in one cut). By AI agents, Wed Nov 11 2026. No macro, syntax, notation, axiom, sorry.
-/
import Derived.Test.YtconaojkonjheaaChecked
import GoSem.Claim
import GoSem.ClaimJoined
import GoSem.ClaimMapViews
import Derived.JoinedTies
import Derived.KernelRfl
namespace Go.Proofs.Ytconaojkonjheaa
/- THE CELL 'sum', in the pinned program and in every row, IS THE sha256 OF THE DUMP (.gsa) THAT YtconaojkonjheaaProg.lean LOADS. Nothing in Lean hashes anything: it is a label: what it is worth is what the hold of that sum in a sandbox is worth. -/
noncomputable def Try.pinned : Pinned := { name := "ytconaojkonjheaa", sum := "7916da86028de80f1f29eaeb37ce2e373178b22938b2d8743ffe1cf2993ea7ce", checked := Try.checked }
namespace Rows
def none {H : Type} : Left H := { results := [], args := [] }

/-- 'nozzlelaw38.ReorderReports': WHATEVER THE INPUT: true; the input reads as it did. -/
def reorderReportsSpec : ChangeSpec := { name := "reorderReports", fn := fun _ => fun
  | [d] => { results := [.lit (.bool true)], args := [d] }
  | _ => none }
def reorderReportsRow : OpenClaim := { program := "ytconaojkonjheaa", sum := "7916da86028de80f1f29eaeb37ce2e373178b22938b2d8743ffe1cf2993ea7ce", func := "nozzle/nozzlelaw38.ReorderReports", spec := "reorderReports", unfollowed := true, recurses := true, apart := false }
def ReorderReportsSaid : Prop := reorderReportsRow.holds Try.pinned (OpenSpec.ofChange reorderReportsSpec)

/-- ITS FALSE NEIGHBOUR: 'it returns false'. Refute it at one input. -/
def reorderReportsWrong : ChangeSpec := { name := "reorderReports", fn := fun _ => fun
  | [d] => { results := [.lit (.bool false)], args := [d] }
  | _ => none }
def ReorderReportsWrongFalsely : Prop := reorderReportsRow.holds Try.pinned (OpenSpec.ofChange reorderReportsWrong)

/-- 'nozzlelaw38.ReorderMany': WHATEVER THE INPUT: true; the input reads as it did. -/
def reorderManySpec : ChangeSpec := { name := "reorderMany", fn := fun _ => fun
  | [d] => { results := [.lit (.bool true)], args := [d] }
  | _ => none }
def reorderManyRow : OpenClaim := { program := "ytconaojkonjheaa", sum := "7916da86028de80f1f29eaeb37ce2e373178b22938b2d8743ffe1cf2993ea7ce", func := "nozzle/nozzlelaw38.ReorderMany", spec := "reorderMany", unfollowed := true, recurses := true, apart := false }
def ReorderManySaid : Prop := reorderManyRow.holds Try.pinned (OpenSpec.ofChange reorderManySpec)

/-- ITS FALSE NEIGHBOUR: 'it returns false'. Refute it at one input. -/
def reorderManyWrong : ChangeSpec := { name := "reorderMany", fn := fun _ => fun
  | [d] => { results := [.lit (.bool false)], args := [d] }
  | _ => none }
def ReorderManyWrongFalsely : Prop := reorderManyRow.holds Try.pinned (OpenSpec.ofChange reorderManyWrong)

/-- 'nozzlelaw38.ReorderMeters': WHATEVER THE INPUT: true; the input reads as it did. -/
def reorderMetersSpec : ChangeSpec := { name := "reorderMeters", fn := fun _ => fun
  | [d1, d2] => { results := [.lit (.bool true)], args := [d1, d2] }
  | _ => none }
def reorderMetersRow : OpenClaim := { program := "ytconaojkonjheaa", sum := "7916da86028de80f1f29eaeb37ce2e373178b22938b2d8743ffe1cf2993ea7ce", func := "nozzle/nozzlelaw38.ReorderMeters", spec := "reorderMeters", unfollowed := true, recurses := true, apart := false }
def ReorderMetersSaid : Prop := reorderMetersRow.holds Try.pinned (OpenSpec.ofChange reorderMetersSpec)

/-- ITS FALSE NEIGHBOUR: 'it returns false'. Refute it at one input. -/
def reorderMetersWrong : ChangeSpec := { name := "reorderMeters", fn := fun _ => fun
  | [d1, d2] => { results := [.lit (.bool false)], args := [d1, d2] }
  | _ => none }
def ReorderMetersWrongFalsely : Prop := reorderMetersRow.holds Try.pinned (OpenSpec.ofChange reorderMetersWrong)

/-- 'nozzlelaw38.ReorderNobody': WHATEVER THE INPUT: true; the input reads as it did. -/
def reorderNobodySpec : ChangeSpec := { name := "reorderNobody", fn := fun _ => fun
  | [d] => { results := [.lit (.bool true)], args := [d] }
  | _ => none }
def reorderNobodyRow : OpenClaim := { program := "ytconaojkonjheaa", sum := "7916da86028de80f1f29eaeb37ce2e373178b22938b2d8743ffe1cf2993ea7ce", func := "nozzle/nozzlelaw38.ReorderNobody", spec := "reorderNobody", unfollowed := true, recurses := true, apart := false }
def ReorderNobodySaid : Prop := reorderNobodyRow.holds Try.pinned (OpenSpec.ofChange reorderNobodySpec)

/-- ITS FALSE NEIGHBOUR: 'it returns false'. Refute it at one input. -/
def reorderNobodyWrong : ChangeSpec := { name := "reorderNobody", fn := fun _ => fun
  | [d] => { results := [.lit (.bool false)], args := [d] }
  | _ => none }
def ReorderNobodyWrongFalsely : Prop := reorderNobodyRow.holds Try.pinned (OpenSpec.ofChange reorderNobodyWrong)

/-- 'nozzlelaw38.ReorderRises': WHATEVER THE INPUT: true; the input reads as it did. -/
def reorderRisesSpec : ChangeSpec := { name := "reorderRises", fn := fun _ => fun
  | [d] => { results := [.lit (.bool true)], args := [d] }
  | _ => none }
def reorderRisesRow : OpenClaim := { program := "ytconaojkonjheaa", sum := "7916da86028de80f1f29eaeb37ce2e373178b22938b2d8743ffe1cf2993ea7ce", func := "nozzle/nozzlelaw38.ReorderRises", spec := "reorderRises", inPlace := ["slices.overlaps[int]"], unfollowed := true, recurses := true, apart := false }
def ReorderRisesSaid : Prop := reorderRisesRow.holds Try.pinned (OpenSpec.ofChange reorderRisesSpec)

/-- ITS FALSE NEIGHBOUR: 'it returns false'. Refute it at one input. -/
def reorderRisesWrong : ChangeSpec := { name := "reorderRises", fn := fun _ => fun
  | [d] => { results := [.lit (.bool false)], args := [d] }
  | _ => none }
def ReorderRisesWrongFalsely : Prop := reorderRisesRow.holds Try.pinned (OpenSpec.ofChange reorderRisesWrong)

/-- 'nozzlelaw38.ReorderMoves': WHATEVER THE INPUT: true; the input reads as it did. -/
def reorderMovesSpec : ChangeSpec := { name := "reorderMoves", fn := fun _ => fun
  | [d] => { results := [.lit (.bool true)], args := [d] }
  | _ => none }
def reorderMovesRow : OpenClaim := { program := "ytconaojkonjheaa", sum := "7916da86028de80f1f29eaeb37ce2e373178b22938b2d8743ffe1cf2993ea7ce", func := "nozzle/nozzlelaw38.ReorderMoves", spec := "reorderMoves", inPlace := ["slices.overlaps[int]"], unfollowed := true, recurses := true, apart := false }
def ReorderMovesSaid : Prop := reorderMovesRow.holds Try.pinned (OpenSpec.ofChange reorderMovesSpec)

/-- ITS FALSE NEIGHBOUR: 'it returns false'. Refute it at one input. -/
def reorderMovesWrong : ChangeSpec := { name := "reorderMoves", fn := fun _ => fun
  | [d] => { results := [.lit (.bool false)], args := [d] }
  | _ => none }
def ReorderMovesWrongFalsely : Prop := reorderMovesRow.holds Try.pinned (OpenSpec.ofChange reorderMovesWrong)

/- THE SECOND FORM. 'bulk': how many values and letters a reading holds, each counted each time it is reached (what is shared counts as often as it is met; a slice's spare places count too). A statement '..UptoSaid' is the law's where the arguments, and the package variables that the reading takes, are together of bulk at most 1048576: NARROWER than '..Said'. Prove '..Said' where nothing that the law and all that it calls make is longer than what came in: it says more and counts as full. Else prove '..UptoSaid'. A law counts once. -/
mutual
def uptoBulk {H : Type} : DataW H → Nat
  | .lit (.string bytes) => bytes.length + 1
  | .lit _ => 1
  | .nil => 1
  | .ptr d => uptoBulk d + 1
  | .slice elems spare => uptoBulkAll elems + uptoBulkAll spare + 1
  | .agg parts => uptoBulkAll parts + 1
  | .iface _ d => uptoBulk d + 1
  | .map entries => uptoBulkEntries entries + 1
  | .held _ => 1
def uptoBulkAll {H : Type} : List (DataW H) → Nat
  | [] => 0
  | d :: r => uptoBulk d + uptoBulkAll r
def uptoBulkEntries {H : Type} : List (Lit × DataW H) → Nat
  | [] => 0
  | x :: r => uptoBulkEntry x + uptoBulkEntries r
def uptoBulkEntry {H : Type} : Lit × DataW H → Nat
  | (.string bytes, d) => bytes.length + uptoBulk d + 1
  | (_, d) => uptoBulk d + 1
 end
def uptoSmall : (H : Type) → List (DataW H) → Bool := fun _ ds => decide (uptoBulkAll ds ≤ 1048576)
def OpenSpec.upto (s : _root_.Go.ChangeSpec) : _root_.Go.OpenSpec := { _root_.Go.OpenSpec.ofChange s with cond := some uptoSmall }

/-- 'nozzlelaw38.ReorderReports', WHERE WHAT IT READS IS OF BULK AT MOST 1048576: true; the input reads as it did. -/
def reorderReportsUptoRow : OpenClaim := { program := "ytconaojkonjheaa", sum := "7916da86028de80f1f29eaeb37ce2e373178b22938b2d8743ffe1cf2993ea7ce", func := "nozzle/nozzlelaw38.ReorderReports", spec := "reorderReports", unfollowed := true, recurses := true, apart := false, narrowed := true }
def ReorderReportsUptoSaid : Prop := reorderReportsUptoRow.holds Try.pinned (OpenSpec.upto reorderReportsSpec)

/-- 'nozzlelaw38.ReorderMany', WHERE WHAT IT READS IS OF BULK AT MOST 1048576: true; the input reads as it did. -/
def reorderManyUptoRow : OpenClaim := { program := "ytconaojkonjheaa", sum := "7916da86028de80f1f29eaeb37ce2e373178b22938b2d8743ffe1cf2993ea7ce", func := "nozzle/nozzlelaw38.ReorderMany", spec := "reorderMany", unfollowed := true, recurses := true, apart := false, narrowed := true }
def ReorderManyUptoSaid : Prop := reorderManyUptoRow.holds Try.pinned (OpenSpec.upto reorderManySpec)

/-- 'nozzlelaw38.ReorderMeters', WHERE WHAT IT READS IS OF BULK AT MOST 1048576: true; the input reads as it did. -/
def reorderMetersUptoRow : OpenClaim := { program := "ytconaojkonjheaa", sum := "7916da86028de80f1f29eaeb37ce2e373178b22938b2d8743ffe1cf2993ea7ce", func := "nozzle/nozzlelaw38.ReorderMeters", spec := "reorderMeters", unfollowed := true, recurses := true, apart := false, narrowed := true }
def ReorderMetersUptoSaid : Prop := reorderMetersUptoRow.holds Try.pinned (OpenSpec.upto reorderMetersSpec)

/-- 'nozzlelaw38.ReorderNobody', WHERE WHAT IT READS IS OF BULK AT MOST 1048576: true; the input reads as it did. -/
def reorderNobodyUptoRow : OpenClaim := { program := "ytconaojkonjheaa", sum := "7916da86028de80f1f29eaeb37ce2e373178b22938b2d8743ffe1cf2993ea7ce", func := "nozzle/nozzlelaw38.ReorderNobody", spec := "reorderNobody", unfollowed := true, recurses := true, apart := false, narrowed := true }
def ReorderNobodyUptoSaid : Prop := reorderNobodyUptoRow.holds Try.pinned (OpenSpec.upto reorderNobodySpec)

/-- 'nozzlelaw38.ReorderRises', WHERE WHAT IT READS IS OF BULK AT MOST 1048576: true; the input reads as it did. -/
def reorderRisesUptoRow : OpenClaim := { program := "ytconaojkonjheaa", sum := "7916da86028de80f1f29eaeb37ce2e373178b22938b2d8743ffe1cf2993ea7ce", func := "nozzle/nozzlelaw38.ReorderRises", spec := "reorderRises", inPlace := ["slices.overlaps[int]"], unfollowed := true, recurses := true, apart := false, narrowed := true }
def ReorderRisesUptoSaid : Prop := reorderRisesUptoRow.holds Try.pinned (OpenSpec.upto reorderRisesSpec)

/-- 'nozzlelaw38.ReorderMoves', WHERE WHAT IT READS IS OF BULK AT MOST 1048576: true; the input reads as it did. -/
def reorderMovesUptoRow : OpenClaim := { program := "ytconaojkonjheaa", sum := "7916da86028de80f1f29eaeb37ce2e373178b22938b2d8743ffe1cf2993ea7ce", func := "nozzle/nozzlelaw38.ReorderMoves", spec := "reorderMoves", inPlace := ["slices.overlaps[int]"], unfollowed := true, recurses := true, apart := false, narrowed := true }
def ReorderMovesUptoSaid : Prop := reorderMovesUptoRow.holds Try.pinned (OpenSpec.upto reorderMovesSpec)

end Rows
end Go.Proofs.Ytconaojkonjheaa
