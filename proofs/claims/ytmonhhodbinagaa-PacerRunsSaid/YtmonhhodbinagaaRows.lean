/-
  No cell of these rows narrows 'for every input' (looked for: loops, veiled, ifaces, maps, wideKeys, modest, calm, conditions, laid).
  DERIVED. THE GIVEN ROWS OF THIS SEAT. 5 by the template 'for every input the law returns true; each argument reads behind the call as it read before'; 0 by the template 'total and deterministic' (their statements: YtmonhhodbinagaaTotals.lean).
  GIVEN WITH THE SEED: the statements are not yours to turn. If you find one false, say at which input.
  Laid BY PROGRAM, IN A SANDBOX (cutbox-rows.mjs): the forced cells as the released guide's own fill.sh prints them over the translation 4c685f38544a5435… (all of the seat's roots in one cut). By AI agents, Wed Nov 11 2026. No macro, syntax, notation, axiom, sorry.
-/
import Derived.Test.YtmonhhodbinagaaChecked
import GoSem.Claim
import GoSem.ClaimJoined
import GoSem.ClaimMapViews
import Derived.JoinedTies
import Derived.KernelRfl
namespace Go.Proofs.Ytmonhhodbinagaa
/- THE CELL 'sum', in the pinned program and in every row, IS THE sha256 OF THE DUMP (.gsa) THAT YtmonhhodbinagaaProg.lean LOADS. Nothing in Lean hashes anything: it is a label: what it is worth is what the hold of that sum in a sandbox is worth. -/
noncomputable def Try.pinned : Pinned := { name := "ytmonhhodbinagaa", sum := "4c685f38544a5435e1eb08c85d4d0cca019799dfeafd605a21a8475b51e4269e", checked := Try.checked }
namespace Rows
def none {H : Type} : Left H := { results := [], args := [] }

/-- 'nozzlelaw18.PacerFair': WHATEVER THE INPUT: true; the input reads as it did. -/
def pacerFairSpec : ChangeSpec := { name := "pacerFair", fn := fun _ => fun
  | [d1, d2, d3, d4] => { results := [.lit (.bool true)], args := [d1, d2, d3, d4] }
  | _ => none }
def pacerFairRow : OpenClaim := { program := "ytmonhhodbinagaa", sum := "4c685f38544a5435e1eb08c85d4d0cca019799dfeafd605a21a8475b51e4269e", func := "nozzle/nozzlelaw18.PacerFair", spec := "pacerFair", plainKeys := false, apart := false }
def PacerFairSaid : Prop := pacerFairRow.holds Try.pinned (OpenSpec.ofChange pacerFairSpec)

/-- ITS FALSE NEIGHBOUR: 'it returns false'. Refute it at one input. -/
def pacerFairWrong : ChangeSpec := { name := "pacerFair", fn := fun _ => fun
  | [d1, d2, d3, d4] => { results := [.lit (.bool false)], args := [d1, d2, d3, d4] }
  | _ => none }
def PacerFairWrongFalsely : Prop := pacerFairRow.holds Try.pinned (OpenSpec.ofChange pacerFairWrong)

/-- 'nozzlelaw18.PacerStarves': WHATEVER THE INPUT: true; the input reads as it did. -/
def pacerStarvesSpec : ChangeSpec := { name := "pacerStarves", fn := fun _ => fun
  | [d1, d2, d3] => { results := [.lit (.bool true)], args := [d1, d2, d3] }
  | _ => none }
def pacerStarvesRow : OpenClaim := { program := "ytmonhhodbinagaa", sum := "4c685f38544a5435e1eb08c85d4d0cca019799dfeafd605a21a8475b51e4269e", func := "nozzle/nozzlelaw18.PacerStarves", spec := "pacerStarves", plainKeys := false, apart := false }
def PacerStarvesSaid : Prop := pacerStarvesRow.holds Try.pinned (OpenSpec.ofChange pacerStarvesSpec)

/-- ITS FALSE NEIGHBOUR: 'it returns false'. Refute it at one input. -/
def pacerStarvesWrong : ChangeSpec := { name := "pacerStarves", fn := fun _ => fun
  | [d1, d2, d3] => { results := [.lit (.bool false)], args := [d1, d2, d3] }
  | _ => none }
def PacerStarvesWrongFalsely : Prop := pacerStarvesRow.holds Try.pinned (OpenSpec.ofChange pacerStarvesWrong)

/-- 'nozzlelaw18.PacerNoMore': WHATEVER THE INPUT: true; the input reads as it did. -/
def pacerNoMoreSpec : ChangeSpec := { name := "pacerNoMore", fn := fun _ => fun
  | [d1, d2] => { results := [.lit (.bool true)], args := [d1, d2] }
  | _ => none }
def pacerNoMoreRow : OpenClaim := { program := "ytmonhhodbinagaa", sum := "4c685f38544a5435e1eb08c85d4d0cca019799dfeafd605a21a8475b51e4269e", func := "nozzle/nozzlelaw18.PacerNoMore", spec := "pacerNoMore", plainKeys := false, apart := false }
def PacerNoMoreSaid : Prop := pacerNoMoreRow.holds Try.pinned (OpenSpec.ofChange pacerNoMoreSpec)

/-- ITS FALSE NEIGHBOUR: 'it returns false'. Refute it at one input. -/
def pacerNoMoreWrong : ChangeSpec := { name := "pacerNoMore", fn := fun _ => fun
  | [d1, d2] => { results := [.lit (.bool false)], args := [d1, d2] }
  | _ => none }
def PacerNoMoreWrongFalsely : Prop := pacerNoMoreRow.holds Try.pinned (OpenSpec.ofChange pacerNoMoreWrong)

/-- 'nozzlelaw18.PacerRuns': WHATEVER THE INPUT: true; the input reads as it did. -/
def pacerRunsSpec : ChangeSpec := { name := "pacerRuns", fn := fun _ => fun
  | [d1, d2] => { results := [.lit (.bool true)], args := [d1, d2] }
  | _ => none }
def pacerRunsRow : OpenClaim := { program := "ytmonhhodbinagaa", sum := "4c685f38544a5435e1eb08c85d4d0cca019799dfeafd605a21a8475b51e4269e", func := "nozzle/nozzlelaw18.PacerRuns", spec := "pacerRuns", unfollowed := true, recurses := true, plainKeys := false, apart := false }
def PacerRunsSaid : Prop := pacerRunsRow.holds Try.pinned (OpenSpec.ofChange pacerRunsSpec)

/-- ITS FALSE NEIGHBOUR: 'it returns false'. Refute it at one input. -/
def pacerRunsWrong : ChangeSpec := { name := "pacerRuns", fn := fun _ => fun
  | [d1, d2] => { results := [.lit (.bool false)], args := [d1, d2] }
  | _ => none }
def PacerRunsWrongFalsely : Prop := pacerRunsRow.holds Try.pinned (OpenSpec.ofChange pacerRunsWrong)

/-- 'nozzlelaw18.PacerNobody': WHATEVER THE INPUT: true; the input reads as it did. -/
def pacerNobodySpec : ChangeSpec := { name := "pacerNobody", fn := fun _ => fun
  | [d1, d2] => { results := [.lit (.bool true)], args := [d1, d2] }
  | _ => none }
def pacerNobodyRow : OpenClaim := { program := "ytmonhhodbinagaa", sum := "4c685f38544a5435e1eb08c85d4d0cca019799dfeafd605a21a8475b51e4269e", func := "nozzle/nozzlelaw18.PacerNobody", spec := "pacerNobody", unfollowed := true, recurses := true, plainKeys := false, apart := false }
def PacerNobodySaid : Prop := pacerNobodyRow.holds Try.pinned (OpenSpec.ofChange pacerNobodySpec)

/-- ITS FALSE NEIGHBOUR: 'it returns false'. Refute it at one input. -/
def pacerNobodyWrong : ChangeSpec := { name := "pacerNobody", fn := fun _ => fun
  | [d1, d2] => { results := [.lit (.bool false)], args := [d1, d2] }
  | _ => none }
def PacerNobodyWrongFalsely : Prop := pacerNobodyRow.holds Try.pinned (OpenSpec.ofChange pacerNobodyWrong)

/- THE SECOND FORM. 'bulk': how many values and letters a reading holds, each counted each time it is reached (what is shared counts as often as it is met; a slice's spare places count too). A statement '..UptoSaid' is the law's where the arguments, and the package variables that the reading takes, are together of bulk at most 1048576: NARROWER than '..Said'. Prove '..Said' where nothing that the law and all that it calls make is longer than what came in: it says more and counts as full. Else prove '..UptoSaid'. A law counts once. -/
mutual
def uptoBulk {H : Type} : DataW H → Nat
  | .lit (.string bytes) => bytes.length + 1
  | .lit _ => 1
  | .nil => 1
  | .ptr d => uptoBulk d + 1
  | .slice elems spare => uptoBulkAll elems + uptoBulkAll spare + 1
  | .agg parts => uptoBulkAll parts + 1
  | .iface _ d => uptoBulk d + 1
  | .map entries => uptoBulkEntries entries + 1
  | .held _ => 1
def uptoBulkAll {H : Type} : List (DataW H) → Nat
  | [] => 0
  | d :: r => uptoBulk d + uptoBulkAll r
def uptoBulkEntries {H : Type} : List (Lit × DataW H) → Nat
  | [] => 0
  | x :: r => uptoBulkEntry x + uptoBulkEntries r
def uptoBulkEntry {H : Type} : Lit × DataW H → Nat
  | (.string bytes, d) => bytes.length + uptoBulk d + 1
  | (_, d) => uptoBulk d + 1
 end
def uptoSmall : (H : Type) → List (DataW H) → Bool := fun _ ds => decide (uptoBulkAll ds ≤ 1048576)
def OpenSpec.upto (s : _root_.Go.ChangeSpec) : _root_.Go.OpenSpec := { _root_.Go.OpenSpec.ofChange s with cond := some uptoSmall }

/-- 'nozzlelaw18.PacerFair', WHERE WHAT IT READS IS OF BULK AT MOST 1048576: true; the input reads as it did. -/
def pacerFairUptoRow : OpenClaim := { program := "ytmonhhodbinagaa", sum := "4c685f38544a5435e1eb08c85d4d0cca019799dfeafd605a21a8475b51e4269e", func := "nozzle/nozzlelaw18.PacerFair", spec := "pacerFair", plainKeys := false, apart := false, narrowed := true }
def PacerFairUptoSaid : Prop := pacerFairUptoRow.holds Try.pinned (OpenSpec.upto pacerFairSpec)

/-- 'nozzlelaw18.PacerStarves', WHERE WHAT IT READS IS OF BULK AT MOST 1048576: true; the input reads as it did. -/
def pacerStarvesUptoRow : OpenClaim := { program := "ytmonhhodbinagaa", sum := "4c685f38544a5435e1eb08c85d4d0cca019799dfeafd605a21a8475b51e4269e", func := "nozzle/nozzlelaw18.PacerStarves", spec := "pacerStarves", plainKeys := false, apart := false, narrowed := true }
def PacerStarvesUptoSaid : Prop := pacerStarvesUptoRow.holds Try.pinned (OpenSpec.upto pacerStarvesSpec)

/-- 'nozzlelaw18.PacerNoMore', WHERE WHAT IT READS IS OF BULK AT MOST 1048576: true; the input reads as it did. -/
def pacerNoMoreUptoRow : OpenClaim := { program := "ytmonhhodbinagaa", sum := "4c685f38544a5435e1eb08c85d4d0cca019799dfeafd605a21a8475b51e4269e", func := "nozzle/nozzlelaw18.PacerNoMore", spec := "pacerNoMore", plainKeys := false, apart := false, narrowed := true }
def PacerNoMoreUptoSaid : Prop := pacerNoMoreUptoRow.holds Try.pinned (OpenSpec.upto pacerNoMoreSpec)

/-- 'nozzlelaw18.PacerRuns', WHERE WHAT IT READS IS OF BULK AT MOST 1048576: true; the input reads as it did. -/
def pacerRunsUptoRow : OpenClaim := { program := "ytmonhhodbinagaa", sum := "4c685f38544a5435e1eb08c85d4d0cca019799dfeafd605a21a8475b51e4269e", func := "nozzle/nozzlelaw18.PacerRuns", spec := "pacerRuns", unfollowed := true, recurses := true, plainKeys := false, apart := false, narrowed := true }
def PacerRunsUptoSaid : Prop := pacerRunsUptoRow.holds Try.pinned (OpenSpec.upto pacerRunsSpec)

/-- 'nozzlelaw18.PacerNobody', WHERE WHAT IT READS IS OF BULK AT MOST 1048576: true; the input reads as it did. -/
def pacerNobodyUptoRow : OpenClaim := { program := "ytmonhhodbinagaa", sum := "4c685f38544a5435e1eb08c85d4d0cca019799dfeafd605a21a8475b51e4269e", func := "nozzle/nozzlelaw18.PacerNobody", spec := "pacerNobody", unfollowed := true, recurses := true, plainKeys := false, apart := false, narrowed := true }
def PacerNobodyUptoSaid : Prop := pacerNobodyUptoRow.holds Try.pinned (OpenSpec.upto pacerNobodySpec)

end Rows
end Go.Proofs.Ytmonhhodbinagaa
