/-
  No cell of these rows narrows 'for every input' (looked for: loops, veiled, ifaces, maps, wideKeys, modest, calm, conditions, laid).
  DERIVED. THE GIVEN ROWS OF THIS SEAT. 9 by the template 'for every input the law returns true; each argument reads behind the call as it read before'; 0 by the template 'total and deterministic' (their statements: YtadalodjnbnjkaaTotals.lean).
  GIVEN WITH THE SEED: the statements are not yours to turn. If you find one false, say at which input.
  Laid BY PROGRAM, IN A SANDBOX (cutbox-rows.mjs): the forced cells as the released guide's own fill.sh prints them over the translation 38ee3adcecc2d6e9… (all of the seat's roots in one cut). By AI agents, Wed Nov 11 2026. No macro, syntax, notation, axiom, sorry.
-/
import Derived.Test.YtadalodjnbnjkaaChecked
import GoSem.Claim
import GoSem.ClaimJoined
import GoSem.ClaimMapViews
import Derived.JoinedTies
import Derived.KernelRfl
namespace Go.Proofs.Ytadalodjnbnjkaa
/- THE CELL 'sum', in the pinned program and in every row, IS THE sha256 OF THE DUMP (.gsa) THAT YtadalodjnbnjkaaProg.lean LOADS. Nothing in Lean hashes anything: it is a label: what it is worth is what the hold of that sum in a sandbox is worth. -/
noncomputable def Try.pinned : Pinned := { name := "ytadalodjnbnjkaa", sum := "38ee3adcecc2d6e97327dfb0ac5fcdb1e40d086ae344fee8cf927e9579e1d2f6", checked := Try.checked }
namespace Rows
def none {H : Type} : Left H := { results := [], args := [] }

/-- 'ledgerlaw19.LaneNumbers': WHATEVER THE INPUT: true; the input reads as it did. -/
def laneNumbersSpec : ChangeSpec := { name := "laneNumbers", fn := fun _ => fun
  | [] => { results := [.lit (.bool true)], args := [] }
  | _ => none }
def laneNumbersRow : OpenClaim := { program := "ytadalodjnbnjkaa", sum := "38ee3adcecc2d6e97327dfb0ac5fcdb1e40d086ae344fee8cf927e9579e1d2f6", func := "ledger/ledgerlaw19.LaneNumbers", spec := "laneNumbers", apart := false }
def LaneNumbersSaid : Prop := laneNumbersRow.holds Try.pinned (OpenSpec.ofChange laneNumbersSpec)

/-- ITS FALSE NEIGHBOUR: 'it returns false'. Refute it at one input. -/
def laneNumbersWrong : ChangeSpec := { name := "laneNumbers", fn := fun _ => fun
  | [] => { results := [.lit (.bool false)], args := [] }
  | _ => none }
def LaneNumbersWrongFalsely : Prop := laneNumbersRow.holds Try.pinned (OpenSpec.ofChange laneNumbersWrong)

/-- 'ledgerlaw19.LaneNews': WHATEVER THE INPUT: true; the input reads as it did. -/
def laneNewsSpec : ChangeSpec := { name := "laneNews", fn := fun _ => fun
  | [d] => { results := [.lit (.bool true)], args := [d] }
  | _ => none }
def laneNewsRow : OpenClaim := { program := "ytadalodjnbnjkaa", sum := "38ee3adcecc2d6e97327dfb0ac5fcdb1e40d086ae344fee8cf927e9579e1d2f6", func := "ledger/ledgerlaw19.LaneNews", spec := "laneNews", apart := false }
def LaneNewsSaid : Prop := laneNewsRow.holds Try.pinned (OpenSpec.ofChange laneNewsSpec)

/-- ITS FALSE NEIGHBOUR: 'it returns false'. Refute it at one input. -/
def laneNewsWrong : ChangeSpec := { name := "laneNews", fn := fun _ => fun
  | [d] => { results := [.lit (.bool false)], args := [d] }
  | _ => none }
def LaneNewsWrongFalsely : Prop := laneNewsRow.holds Try.pinned (OpenSpec.ofChange laneNewsWrong)

/-- 'ledgerlaw19.LaneFills': WHATEVER THE INPUT: true; the input reads as it did. -/
def laneFillsSpec : ChangeSpec := { name := "laneFills", fn := fun _ => fun
  | [d] => { results := [.lit (.bool true)], args := [d] }
  | _ => none }
def laneFillsRow : OpenClaim := { program := "ytadalodjnbnjkaa", sum := "38ee3adcecc2d6e97327dfb0ac5fcdb1e40d086ae344fee8cf927e9579e1d2f6", func := "ledger/ledgerlaw19.LaneFills", spec := "laneFills", apart := false }
def LaneFillsSaid : Prop := laneFillsRow.holds Try.pinned (OpenSpec.ofChange laneFillsSpec)

/-- ITS FALSE NEIGHBOUR: 'it returns false'. Refute it at one input. -/
def laneFillsWrong : ChangeSpec := { name := "laneFills", fn := fun _ => fun
  | [d] => { results := [.lit (.bool false)], args := [d] }
  | _ => none }
def LaneFillsWrongFalsely : Prop := laneFillsRow.holds Try.pinned (OpenSpec.ofChange laneFillsWrong)

/-- 'ledgerlaw19.LaneApart': WHATEVER THE INPUT: true; the input reads as it did. -/
def laneApartSpec : ChangeSpec := { name := "laneApart", fn := fun _ => fun
  | [d] => { results := [.lit (.bool true)], args := [d] }
  | _ => none }
def laneApartRow : OpenClaim := { program := "ytadalodjnbnjkaa", sum := "38ee3adcecc2d6e97327dfb0ac5fcdb1e40d086ae344fee8cf927e9579e1d2f6", func := "ledger/ledgerlaw19.LaneApart", spec := "laneApart", apart := false }
def LaneApartSaid : Prop := laneApartRow.holds Try.pinned (OpenSpec.ofChange laneApartSpec)

/-- ITS FALSE NEIGHBOUR: 'it returns false'. Refute it at one input. -/
def laneApartWrong : ChangeSpec := { name := "laneApart", fn := fun _ => fun
  | [d] => { results := [.lit (.bool false)], args := [d] }
  | _ => none }
def LaneApartWrongFalsely : Prop := laneApartRow.holds Try.pinned (OpenSpec.ofChange laneApartWrong)

/-- 'ledgerlaw19.LaneSteps': WHATEVER THE INPUT: true; the input reads as it did. -/
def laneStepsSpec : ChangeSpec := { name := "laneSteps", fn := fun _ => fun
  | [d1, d2, d3, d4] => { results := [.lit (.bool true)], args := [d1, d2, d3, d4] }
  | _ => none }
def laneStepsRow : OpenClaim := { program := "ytadalodjnbnjkaa", sum := "38ee3adcecc2d6e97327dfb0ac5fcdb1e40d086ae344fee8cf927e9579e1d2f6", func := "ledger/ledgerlaw19.LaneSteps", spec := "laneSteps", apart := false }
def LaneStepsSaid : Prop := laneStepsRow.holds Try.pinned (OpenSpec.ofChange laneStepsSpec)

/-- ITS FALSE NEIGHBOUR: 'it returns false'. Refute it at one input. -/
def laneStepsWrong : ChangeSpec := { name := "laneSteps", fn := fun _ => fun
  | [d1, d2, d3, d4] => { results := [.lit (.bool false)], args := [d1, d2, d3, d4] }
  | _ => none }
def LaneStepsWrongFalsely : Prop := laneStepsRow.holds Try.pinned (OpenSpec.ofChange laneStepsWrong)

/-- 'ledgerlaw19.LaneCloses': WHATEVER THE INPUT: true; the input reads as it did. -/
def laneClosesSpec : ChangeSpec := { name := "laneCloses", fn := fun _ => fun
  | [d1, d2, d3] => { results := [.lit (.bool true)], args := [d1, d2, d3] }
  | _ => none }
def laneClosesRow : OpenClaim := { program := "ytadalodjnbnjkaa", sum := "38ee3adcecc2d6e97327dfb0ac5fcdb1e40d086ae344fee8cf927e9579e1d2f6", func := "ledger/ledgerlaw19.LaneCloses", spec := "laneCloses", apart := false }
def LaneClosesSaid : Prop := laneClosesRow.holds Try.pinned (OpenSpec.ofChange laneClosesSpec)

/-- ITS FALSE NEIGHBOUR: 'it returns false'. Refute it at one input. -/
def laneClosesWrong : ChangeSpec := { name := "laneCloses", fn := fun _ => fun
  | [d1, d2, d3] => { results := [.lit (.bool false)], args := [d1, d2, d3] }
  | _ => none }
def LaneClosesWrongFalsely : Prop := laneClosesRow.holds Try.pinned (OpenSpec.ofChange laneClosesWrong)

/-- 'ledgerlaw19.LaneAnyFirst': WHATEVER THE INPUT: true; the input reads as it did. -/
def laneAnyFirstSpec : ChangeSpec := { name := "laneAnyFirst", fn := fun _ => fun
  | [d1, d2, d3] => { results := [.lit (.bool true)], args := [d1, d2, d3] }
  | _ => none }
def laneAnyFirstRow : OpenClaim := { program := "ytadalodjnbnjkaa", sum := "38ee3adcecc2d6e97327dfb0ac5fcdb1e40d086ae344fee8cf927e9579e1d2f6", func := "ledger/ledgerlaw19.LaneAnyFirst", spec := "laneAnyFirst", apart := false }
def LaneAnyFirstSaid : Prop := laneAnyFirstRow.holds Try.pinned (OpenSpec.ofChange laneAnyFirstSpec)

/-- ITS FALSE NEIGHBOUR: 'it returns false'. Refute it at one input. -/
def laneAnyFirstWrong : ChangeSpec := { name := "laneAnyFirst", fn := fun _ => fun
  | [d1, d2, d3] => { results := [.lit (.bool false)], args := [d1, d2, d3] }
  | _ => none }
def LaneAnyFirstWrongFalsely : Prop := laneAnyFirstRow.holds Try.pinned (OpenSpec.ofChange laneAnyFirstWrong)

/-- 'ledgerlaw19.LaneComes': WHATEVER THE INPUT: true; the input reads as it did. -/
def laneComesSpec : ChangeSpec := { name := "laneComes", fn := fun _ => fun
  | [d1, d2] => { results := [.lit (.bool true)], args := [d1, d2] }
  | _ => none }
def laneComesRow : OpenClaim := { program := "ytadalodjnbnjkaa", sum := "38ee3adcecc2d6e97327dfb0ac5fcdb1e40d086ae344fee8cf927e9579e1d2f6", func := "ledger/ledgerlaw19.LaneComes", spec := "laneComes", apart := false }
def LaneComesSaid : Prop := laneComesRow.holds Try.pinned (OpenSpec.ofChange laneComesSpec)

/-- ITS FALSE NEIGHBOUR: 'it returns false'. Refute it at one input. -/
def laneComesWrong : ChangeSpec := { name := "laneComes", fn := fun _ => fun
  | [d1, d2] => { results := [.lit (.bool false)], args := [d1, d2] }
  | _ => none }
def LaneComesWrongFalsely : Prop := laneComesRow.holds Try.pinned (OpenSpec.ofChange laneComesWrong)

/-- 'ledgerlaw19.LanePlays': WHATEVER THE INPUT: true; the input reads as it did. -/
def lanePlaysSpec : ChangeSpec := { name := "lanePlays", fn := fun _ => fun
  | [d1, d2, d3] => { results := [.lit (.bool true)], args := [d1, d2, d3] }
  | _ => none }
def lanePlaysRow : OpenClaim := { program := "ytadalodjnbnjkaa", sum := "38ee3adcecc2d6e97327dfb0ac5fcdb1e40d086ae344fee8cf927e9579e1d2f6", func := "ledger/ledgerlaw19.LanePlays", spec := "lanePlays", apart := false }
def LanePlaysSaid : Prop := lanePlaysRow.holds Try.pinned (OpenSpec.ofChange lanePlaysSpec)

/-- ITS FALSE NEIGHBOUR: 'it returns false'. Refute it at one input. -/
def lanePlaysWrong : ChangeSpec := { name := "lanePlays", fn := fun _ => fun
  | [d1, d2, d3] => { results := [.lit (.bool false)], args := [d1, d2, d3] }
  | _ => none }
def LanePlaysWrongFalsely : Prop := lanePlaysRow.holds Try.pinned (OpenSpec.ofChange lanePlaysWrong)

/- THE SECOND FORM. 'bulk': how many values and letters a reading holds, each counted each time it is reached (what is shared counts as often as it is met; a slice's spare places count too). A statement '..UptoSaid' is the law's where the arguments, and the package variables that the reading takes, are together of bulk at most 1048576: NARROWER than '..Said'. Prove '..Said' where nothing that the law and all that it calls make is longer than what came in: it says more and counts as full. Else prove '..UptoSaid'. A law counts once. -/
mutual
def uptoBulk {H : Type} : DataW H → Nat
  | .lit (.string bytes) => bytes.length + 1
  | .lit _ => 1
  | .nil => 1
  | .ptr d => uptoBulk d + 1
  | .slice elems spare => uptoBulkAll elems + uptoBulkAll spare + 1
  | .agg parts => uptoBulkAll parts + 1
  | .iface _ d => uptoBulk d + 1
  | .map entries => uptoBulkEntries entries + 1
  | .held _ => 1
def uptoBulkAll {H : Type} : List (DataW H) → Nat
  | [] => 0
  | d :: r => uptoBulk d + uptoBulkAll r
def uptoBulkEntries {H : Type} : List (Lit × DataW H) → Nat
  | [] => 0
  | x :: r => uptoBulkEntry x + uptoBulkEntries r
def uptoBulkEntry {H : Type} : Lit × DataW H → Nat
  | (.string bytes, d) => bytes.length + uptoBulk d + 1
  | (_, d) => uptoBulk d + 1
 end
def uptoSmall : (H : Type) → List (DataW H) → Bool := fun _ ds => decide (uptoBulkAll ds ≤ 1048576)
def OpenSpec.upto (s : _root_.Go.ChangeSpec) : _root_.Go.OpenSpec := { _root_.Go.OpenSpec.ofChange s with cond := some uptoSmall }

/-- 'ledgerlaw19.LaneNumbers', WHERE WHAT IT READS IS OF BULK AT MOST 1048576: true; the input reads as it did. -/
def laneNumbersUptoRow : OpenClaim := { program := "ytadalodjnbnjkaa", sum := "38ee3adcecc2d6e97327dfb0ac5fcdb1e40d086ae344fee8cf927e9579e1d2f6", func := "ledger/ledgerlaw19.LaneNumbers", spec := "laneNumbers", apart := false, narrowed := true }
def LaneNumbersUptoSaid : Prop := laneNumbersUptoRow.holds Try.pinned (OpenSpec.upto laneNumbersSpec)

/-- 'ledgerlaw19.LaneNews', WHERE WHAT IT READS IS OF BULK AT MOST 1048576: true; the input reads as it did. -/
def laneNewsUptoRow : OpenClaim := { program := "ytadalodjnbnjkaa", sum := "38ee3adcecc2d6e97327dfb0ac5fcdb1e40d086ae344fee8cf927e9579e1d2f6", func := "ledger/ledgerlaw19.LaneNews", spec := "laneNews", apart := false, narrowed := true }
def LaneNewsUptoSaid : Prop := laneNewsUptoRow.holds Try.pinned (OpenSpec.upto laneNewsSpec)

/-- 'ledgerlaw19.LaneFills', WHERE WHAT IT READS IS OF BULK AT MOST 1048576: true; the input reads as it did. -/
def laneFillsUptoRow : OpenClaim := { program := "ytadalodjnbnjkaa", sum := "38ee3adcecc2d6e97327dfb0ac5fcdb1e40d086ae344fee8cf927e9579e1d2f6", func := "ledger/ledgerlaw19.LaneFills", spec := "laneFills", apart := false, narrowed := true }
def LaneFillsUptoSaid : Prop := laneFillsUptoRow.holds Try.pinned (OpenSpec.upto laneFillsSpec)

/-- 'ledgerlaw19.LaneApart', WHERE WHAT IT READS IS OF BULK AT MOST 1048576: true; the input reads as it did. -/
def laneApartUptoRow : OpenClaim := { program := "ytadalodjnbnjkaa", sum := "38ee3adcecc2d6e97327dfb0ac5fcdb1e40d086ae344fee8cf927e9579e1d2f6", func := "ledger/ledgerlaw19.LaneApart", spec := "laneApart", apart := false, narrowed := true }
def LaneApartUptoSaid : Prop := laneApartUptoRow.holds Try.pinned (OpenSpec.upto laneApartSpec)

/-- 'ledgerlaw19.LaneSteps', WHERE WHAT IT READS IS OF BULK AT MOST 1048576: true; the input reads as it did. -/
def laneStepsUptoRow : OpenClaim := { program := "ytadalodjnbnjkaa", sum := "38ee3adcecc2d6e97327dfb0ac5fcdb1e40d086ae344fee8cf927e9579e1d2f6", func := "ledger/ledgerlaw19.LaneSteps", spec := "laneSteps", apart := false, narrowed := true }
def LaneStepsUptoSaid : Prop := laneStepsUptoRow.holds Try.pinned (OpenSpec.upto laneStepsSpec)

/-- 'ledgerlaw19.LaneCloses', WHERE WHAT IT READS IS OF BULK AT MOST 1048576: true; the input reads as it did. -/
def laneClosesUptoRow : OpenClaim := { program := "ytadalodjnbnjkaa", sum := "38ee3adcecc2d6e97327dfb0ac5fcdb1e40d086ae344fee8cf927e9579e1d2f6", func := "ledger/ledgerlaw19.LaneCloses", spec := "laneCloses", apart := false, narrowed := true }
def LaneClosesUptoSaid : Prop := laneClosesUptoRow.holds Try.pinned (OpenSpec.upto laneClosesSpec)

/-- 'ledgerlaw19.LaneAnyFirst', WHERE WHAT IT READS IS OF BULK AT MOST 1048576: true; the input reads as it did. -/
def laneAnyFirstUptoRow : OpenClaim := { program := "ytadalodjnbnjkaa", sum := "38ee3adcecc2d6e97327dfb0ac5fcdb1e40d086ae344fee8cf927e9579e1d2f6", func := "ledger/ledgerlaw19.LaneAnyFirst", spec := "laneAnyFirst", apart := false, narrowed := true }
def LaneAnyFirstUptoSaid : Prop := laneAnyFirstUptoRow.holds Try.pinned (OpenSpec.upto laneAnyFirstSpec)

/-- 'ledgerlaw19.LaneComes', WHERE WHAT IT READS IS OF BULK AT MOST 1048576: true; the input reads as it did. -/
def laneComesUptoRow : OpenClaim := { program := "ytadalodjnbnjkaa", sum := "38ee3adcecc2d6e97327dfb0ac5fcdb1e40d086ae344fee8cf927e9579e1d2f6", func := "ledger/ledgerlaw19.LaneComes", spec := "laneComes", apart := false, narrowed := true }
def LaneComesUptoSaid : Prop := laneComesUptoRow.holds Try.pinned (OpenSpec.upto laneComesSpec)

/-- 'ledgerlaw19.LanePlays', WHERE WHAT IT READS IS OF BULK AT MOST 1048576: true; the input reads as it did. -/
def lanePlaysUptoRow : OpenClaim := { program := "ytadalodjnbnjkaa", sum := "38ee3adcecc2d6e97327dfb0ac5fcdb1e40d086ae344fee8cf927e9579e1d2f6", func := "ledger/ledgerlaw19.LanePlays", spec := "lanePlays", apart := false, narrowed := true }
def LanePlaysUptoSaid : Prop := lanePlaysUptoRow.holds Try.pinned (OpenSpec.upto lanePlaysSpec)

end Rows
end Go.Proofs.Ytadalodjnbnjkaa
