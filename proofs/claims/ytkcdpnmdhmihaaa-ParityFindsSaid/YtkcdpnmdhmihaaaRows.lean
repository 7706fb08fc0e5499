/-
  No cell of these rows narrows 'for every input' (looked for: loops, veiled, ifaces, maps, wideKeys, modest, calm, conditions, laid).
  DERIVED. THE GIVEN ROWS OF THIS SEAT. 6 by the template 'for every input the law returns true; each argument reads behind the call as it read before'; 0 by the template 'total and deterministic' (their statements: YtkcdpnmdhmihaaaTotals.lean).
  GIVEN WITH THE SEED: the statements are not yours to turn. If you find one false, say at which input.
  Laid BY PROGRAM, IN A SANDBOX (cutbox-rows.mjs): the forced cells as the released guide's own fill.sh prints them over the translation 2e13a410fc047d31… (all of the seat's roots in one cut). By AI agents, Wed Nov 11 2026. No macro, syntax, notation, axiom, sorry.
-/
import Derived.Test.YtkcdpnmdhmihaaaChecked
import GoSem.Claim
import GoSem.ClaimJoined
import GoSem.ClaimMapViews
import Derived.JoinedTies
import Derived.KernelRfl
namespace Go.Proofs.Ytkcdpnmdhmihaaa
/- THE CELL 'sum', in the pinned program and in every row, IS THE sha256 OF THE DUMP (.gsa) THAT YtkcdpnmdhmihaaaProg.lean LOADS. Nothing in Lean hashes anything: it is a label: what it is worth is what the hold of that sum in a sandbox is worth. -/
noncomputable def Try.pinned : Pinned := { name := "ytkcdpnmdhmihaaa", sum := "2e13a410fc047d312c965b6ffe1cfaabb33c82605511817dfd1e4780fd2b5e1c", checked := Try.checked }
namespace Rows
def none {H : Type} : Left H := { results := [], args := [] }

/-- 'nozzlelaw36.ParityMakes': WHATEVER THE INPUT: true; the input reads as it did. -/
def parityMakesSpec : ChangeSpec := { name := "parityMakes", fn := fun _ => fun
  | [d1, d2] => { results := [.lit (.bool true)], args := [d1, d2] }
  | _ => none }
def parityMakesRow : OpenClaim := { program := "ytkcdpnmdhmihaaa", sum := "2e13a410fc047d312c965b6ffe1cfaabb33c82605511817dfd1e4780fd2b5e1c", func := "nozzle/nozzlelaw36.ParityMakes", spec := "parityMakes", unfollowed := true, recurses := true, apart := false }
def ParityMakesSaid : Prop := parityMakesRow.holds Try.pinned (OpenSpec.ofChange parityMakesSpec)

/-- ITS FALSE NEIGHBOUR: 'it returns false'. Refute it at one input. -/
def parityMakesWrong : ChangeSpec := { name := "parityMakes", fn := fun _ => fun
  | [d1, d2] => { results := [.lit (.bool false)], args := [d1, d2] }
  | _ => none }
def ParityMakesWrongFalsely : Prop := parityMakesRow.holds Try.pinned (OpenSpec.ofChange parityMakesWrong)

/-- 'nozzlelaw36.ParityFinds': WHATEVER THE INPUT: true; the input reads as it did. -/
def parityFindsSpec : ChangeSpec := { name := "parityFinds", fn := fun _ => fun
  | [d1, d2] => { results := [.lit (.bool true)], args := [d1, d2] }
  | _ => none }
def parityFindsRow : OpenClaim := { program := "ytkcdpnmdhmihaaa", sum := "2e13a410fc047d312c965b6ffe1cfaabb33c82605511817dfd1e4780fd2b5e1c", func := "nozzle/nozzlelaw36.ParityFinds", spec := "parityFinds", unfollowed := true, recurses := true, apart := false }
def ParityFindsSaid : Prop := parityFindsRow.holds Try.pinned (OpenSpec.ofChange parityFindsSpec)

/-- ITS FALSE NEIGHBOUR: 'it returns false'. Refute it at one input. -/
def parityFindsWrong : ChangeSpec := { name := "parityFinds", fn := fun _ => fun
  | [d1, d2] => { results := [.lit (.bool false)], args := [d1, d2] }
  | _ => none }
def ParityFindsWrongFalsely : Prop := parityFindsRow.holds Try.pinned (OpenSpec.ofChange parityFindsWrong)

/-- 'nozzlelaw36.ParityOrder': WHATEVER THE INPUT: true; the input reads as it did. -/
def parityOrderSpec : ChangeSpec := { name := "parityOrder", fn := fun _ => fun
  | [d1, d2, d3, d4] => { results := [.lit (.bool true)], args := [d1, d2, d3, d4] }
  | _ => none }
def parityOrderRow : OpenClaim := { program := "ytkcdpnmdhmihaaa", sum := "2e13a410fc047d312c965b6ffe1cfaabb33c82605511817dfd1e4780fd2b5e1c", func := "nozzle/nozzlelaw36.ParityOrder", spec := "parityOrder", unfollowed := true, recurses := true, apart := false }
def ParityOrderSaid : Prop := parityOrderRow.holds Try.pinned (OpenSpec.ofChange parityOrderSpec)

/-- ITS FALSE NEIGHBOUR: 'it returns false'. Refute it at one input. -/
def parityOrderWrong : ChangeSpec := { name := "parityOrder", fn := fun _ => fun
  | [d1, d2, d3, d4] => { results := [.lit (.bool false)], args := [d1, d2, d3, d4] }
  | _ => none }
def ParityOrderWrongFalsely : Prop := parityOrderRow.holds Try.pinned (OpenSpec.ofChange parityOrderWrong)

/-- 'nozzlelaw36.ParityMany': WHATEVER THE INPUT: true; the input reads as it did. -/
def parityManySpec : ChangeSpec := { name := "parityMany", fn := fun _ => fun
  | [d1, d2] => { results := [.lit (.bool true)], args := [d1, d2] }
  | _ => none }
def parityManyRow : OpenClaim := { program := "ytkcdpnmdhmihaaa", sum := "2e13a410fc047d312c965b6ffe1cfaabb33c82605511817dfd1e4780fd2b5e1c", func := "nozzle/nozzlelaw36.ParityMany", spec := "parityMany", unfollowed := true, recurses := true, apart := false }
def ParityManySaid : Prop := parityManyRow.holds Try.pinned (OpenSpec.ofChange parityManySpec)

/-- ITS FALSE NEIGHBOUR: 'it returns false'. Refute it at one input. -/
def parityManyWrong : ChangeSpec := { name := "parityMany", fn := fun _ => fun
  | [d1, d2] => { results := [.lit (.bool false)], args := [d1, d2] }
  | _ => none }
def ParityManyWrongFalsely : Prop := parityManyRow.holds Try.pinned (OpenSpec.ofChange parityManyWrong)

/-- 'nozzlelaw36.ParityNobody': WHATEVER THE INPUT: true; the input reads as it did. -/
def parityNobodySpec : ChangeSpec := { name := "parityNobody", fn := fun _ => fun
  | [d1, d2] => { results := [.lit (.bool true)], args := [d1, d2] }
  | _ => none }
def parityNobodyRow : OpenClaim := { program := "ytkcdpnmdhmihaaa", sum := "2e13a410fc047d312c965b6ffe1cfaabb33c82605511817dfd1e4780fd2b5e1c", func := "nozzle/nozzlelaw36.ParityNobody", spec := "parityNobody", unfollowed := true, recurses := true, apart := false }
def ParityNobodySaid : Prop := parityNobodyRow.holds Try.pinned (OpenSpec.ofChange parityNobodySpec)

/-- ITS FALSE NEIGHBOUR: 'it returns false'. Refute it at one input. -/
def parityNobodyWrong : ChangeSpec := { name := "parityNobody", fn := fun _ => fun
  | [d1, d2] => { results := [.lit (.bool false)], args := [d1, d2] }
  | _ => none }
def ParityNobodyWrongFalsely : Prop := parityNobodyRow.holds Try.pinned (OpenSpec.ofChange parityNobodyWrong)

/-- 'nozzlelaw36.ParityGroups': WHATEVER THE INPUT: true; the input reads as it did. -/
def parityGroupsSpec : ChangeSpec := { name := "parityGroups", fn := fun _ => fun
  | [d1, d2] => { results := [.lit (.bool true)], args := [d1, d2] }
  | _ => none }
def parityGroupsRow : OpenClaim := { program := "ytkcdpnmdhmihaaa", sum := "2e13a410fc047d312c965b6ffe1cfaabb33c82605511817dfd1e4780fd2b5e1c", func := "nozzle/nozzlelaw36.ParityGroups", spec := "parityGroups", unfollowed := true, recurses := true, apart := false }
def ParityGroupsSaid : Prop := parityGroupsRow.holds Try.pinned (OpenSpec.ofChange parityGroupsSpec)

/-- ITS FALSE NEIGHBOUR: 'it returns false'. Refute it at one input. -/
def parityGroupsWrong : ChangeSpec := { name := "parityGroups", fn := fun _ => fun
  | [d1, d2] => { results := [.lit (.bool false)], args := [d1, d2] }
  | _ => none }
def ParityGroupsWrongFalsely : Prop := parityGroupsRow.holds Try.pinned (OpenSpec.ofChange parityGroupsWrong)

/- THE SECOND FORM. 'bulk': how many values and letters a reading holds, each counted each time it is reached (what is shared counts as often as it is met; a slice's spare places count too). A statement '..UptoSaid' is the law's where the arguments, and the package variables that the reading takes, are together of bulk at most 1048576: NARROWER than '..Said'. Prove '..Said' where nothing that the law and all that it calls make is longer than what came in: it says more and counts as full. Else prove '..UptoSaid'. A law counts once. -/
mutual
def uptoBulk {H : Type} : DataW H → Nat
  | .lit (.string bytes) => bytes.length + 1
  | .lit _ => 1
  | .nil => 1
  | .ptr d => uptoBulk d + 1
  | .slice elems spare => uptoBulkAll elems + uptoBulkAll spare + 1
  | .agg parts => uptoBulkAll parts + 1
  | .iface _ d => uptoBulk d + 1
  | .map entries => uptoBulkEntries entries + 1
  | .held _ => 1
def uptoBulkAll {H : Type} : List (DataW H) → Nat
  | [] => 0
  | d :: r => uptoBulk d + uptoBulkAll r
def uptoBulkEntries {H : Type} : List (Lit × DataW H) → Nat
  | [] => 0
  | x :: r => uptoBulkEntry x + uptoBulkEntries r
def uptoBulkEntry {H : Type} : Lit × DataW H → Nat
  | (.string bytes, d) => bytes.length + uptoBulk d + 1
  | (_, d) => uptoBulk d + 1
 end
def uptoSmall : (H : Type) → List (DataW H) → Bool := fun _ ds => decide (uptoBulkAll ds ≤ 1048576)
def OpenSpec.upto (s : _root_.Go.ChangeSpec) : _root_.Go.OpenSpec := { _root_.Go.OpenSpec.ofChange s with cond := some uptoSmall }

/-- 'nozzlelaw36.ParityMakes', WHERE WHAT IT READS IS OF BULK AT MOST 1048576: true; the input reads as it did. -/
def parityMakesUptoRow : OpenClaim := { program := "ytkcdpnmdhmihaaa", sum := "2e13a410fc047d312c965b6ffe1cfaabb33c82605511817dfd1e4780fd2b5e1c", func := "nozzle/nozzlelaw36.ParityMakes", spec := "parityMakes", unfollowed := true, recurses := true, apart := false, narrowed := true }
def ParityMakesUptoSaid : Prop := parityMakesUptoRow.holds Try.pinned (OpenSpec.upto parityMakesSpec)

/-- 'nozzlelaw36.ParityFinds', WHERE WHAT IT READS IS OF BULK AT MOST 1048576: true; the input reads as it did. -/
def parityFindsUptoRow : OpenClaim := { program := "ytkcdpnmdhmihaaa", sum := "2e13a410fc047d312c965b6ffe1cfaabb33c82605511817dfd1e4780fd2b5e1c", func := "nozzle/nozzlelaw36.ParityFinds", spec := "parityFinds", unfollowed := true, recurses := true, apart := false, narrowed := true }
def ParityFindsUptoSaid : Prop := parityFindsUptoRow.holds Try.pinned (OpenSpec.upto parityFindsSpec)

/-- 'nozzlelaw36.ParityOrder', WHERE WHAT IT READS IS OF BULK AT MOST 1048576: true; the input reads as it did. -/
def parityOrderUptoRow : OpenClaim := { program := "ytkcdpnmdhmihaaa", sum := "2e13a410fc047d312c965b6ffe1cfaabb33c82605511817dfd1e4780fd2b5e1c", func := "nozzle/nozzlelaw36.ParityOrder", spec := "parityOrder", unfollowed := true, recurses := true, apart := false, narrowed := true }
def ParityOrderUptoSaid : Prop := parityOrderUptoRow.holds Try.pinned (OpenSpec.upto parityOrderSpec)

/-- 'nozzlelaw36.ParityMany', WHERE WHAT IT READS IS OF BULK AT MOST 1048576: true; the input reads as it did. -/
def parityManyUptoRow : OpenClaim := { program := "ytkcdpnmdhmihaaa", sum := "2e13a410fc047d312c965b6ffe1cfaabb33c82605511817dfd1e4780fd2b5e1c", func := "nozzle/nozzlelaw36.ParityMany", spec := "parityMany", unfollowed := true, recurses := true, apart := false, narrowed := true }
def ParityManyUptoSaid : Prop := parityManyUptoRow.holds Try.pinned (OpenSpec.upto parityManySpec)

/-- 'nozzlelaw36.ParityNobody', WHERE WHAT IT READS IS OF BULK AT MOST 1048576: true; the input reads as it did. -/
def parityNobodyUptoRow : OpenClaim := { program := "ytkcdpnmdhmihaaa", sum := "2e13a410fc047d312c965b6ffe1cfaabb33c82605511817dfd1e4780fd2b5e1c", func := "nozzle/nozzlelaw36.ParityNobody", spec := "parityNobody", unfollowed := true, recurses := true, apart := false, narrowed := true }
def ParityNobodyUptoSaid : Prop := parityNobodyUptoRow.holds Try.pinned (OpenSpec.upto parityNobodySpec)

/-- 'nozzlelaw36.ParityGroups', WHERE WHAT IT READS IS OF BULK AT MOST 1048576: true; the input reads as it did. -/
def parityGroupsUptoRow : OpenClaim := { program := "ytkcdpnmdhmihaaa", sum := "2e13a410fc047d312c965b6ffe1cfaabb33c82605511817dfd1e4780fd2b5e1c", func := "nozzle/nozzlelaw36.ParityGroups", spec := "parityGroups", unfollowed := true, recurses := true, apart := false, narrowed := true }
def ParityGroupsUptoSaid : Prop := parityGroupsUptoRow.holds Try.pinned (OpenSpec.upto parityGroupsSpec)

end Rows
end Go.Proofs.Ytkcdpnmdhmihaaa
