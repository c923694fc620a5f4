/-
  DERIVED. GIVEN WITH THE SEED: THE CARDS: each row of YtdfdikpklddnhaaGreatDoorRows.lean that lists a variable, with what it lists TIED to the program's text (the seventh form; the later family's looks); each row that meets fmt, with fmt's text TOLD by the authors' own Lean function (tested against real Go, not proved from fmt's source: count such statements apart). THE CARD IS WHAT COUNTS. Prove the row's statement (the work); the ties are given (YtdfdikpklddnhaaGreatDoorTie.lean); close each card by the builder's one call (the guide's Derived/Test/ToyasCard.lean, 'card_holds'). Laid BY PROGRAM, IN A SANDBOX (cutbox-door.mjs). By AI agents, Wed Nov 11 2026. No macro, syntax, notation, axiom, sorry.
-/
import Derived.Test.YtdfdikpklddnhaaGreatDoorRows
import GoSem.ClaimSeven
namespace Go.Proofs.YtdfdikpklddnhaaGreatDoor
namespace Rows

/-- THE TIED CARD OF 'ledgerlaw18.EvidenceStands'. -/
def evidenceStandsCard : Claim7 := { stood := { row := evidenceStandsRow, standIns := [], harness := (true, "38ec93ea0f656bd335011bbbc2abdbc358fa5430f7631ed3ceb482e9b6e378a8"), looks := true }, kinds := [], alts := [], laidByText := true, laidKinds := [.data, .data, .data, .data, .data, .data, .data, .data, .widerDeep, .widerDeep, .data, .data, .pinned, .pinned], laidTests := true, laidLooks := .later }
def EvidenceStandsCardSaid : Prop := Claim7.holds Tryz.pinned (.plain (OpenSpec.ofChange evidenceStandsSpec)) evidenceStandsCard

/-- THE TIED CARD OF 'ledgerlaw18.EvidenceRight'. -/
def evidenceRightCard : Claim7 := { stood := { row := evidenceRightRow, standIns := [], harness := (true, "38ec93ea0f656bd335011bbbc2abdbc358fa5430f7631ed3ceb482e9b6e378a8"), looks := true }, kinds := [], alts := [], laidByText := true, laidKinds := [.data, .data, .data, .data, .widerDeep, .widerDeep, .data, .data, .pinned, .pinned], laidTests := true, laidLooks := .later }
def EvidenceRightCardSaid : Prop := Claim7.holds Tryz.pinned (.plain (OpenSpec.ofChange evidenceRightSpec)) evidenceRightCard

/-- THE TIED CARD OF 'ledgerlaw18.EvidenceJudges'. -/
def evidenceJudgesCard : Claim7 := { stood := { row := evidenceJudgesRow, standIns := [], harness := (true, "38ec93ea0f656bd335011bbbc2abdbc358fa5430f7631ed3ceb482e9b6e378a8"), looks := true }, kinds := [], alts := [], laidByText := true, laidKinds := [.data, .data, .data, .data, .widerDeep, .widerDeep, .data, .data, .pinned, .pinned], laidTests := true, laidLooks := .later }
def EvidenceJudgesCardSaid : Prop := Claim7.holds Tryz.pinned (.plain (OpenSpec.ofChange evidenceJudgesSpec)) evidenceJudgesCard

/-- THE TIED CARD OF 'ledgerlaw18.EvidenceKeeps'. -/
def evidenceKeepsCard : Claim7 := { stood := { row := evidenceKeepsRow, standIns := [], harness := (true, "38ec93ea0f656bd335011bbbc2abdbc358fa5430f7631ed3ceb482e9b6e378a8"), looks := true }, kinds := [], alts := [], laidByText := true, laidKinds := [.data, .data, .data, .data, .widerDeep, .widerDeep, .data, .data, .pinned, .pinned], laidTests := true, laidLooks := .later }
def EvidenceKeepsCardSaid : Prop := Claim7.holds Tryz.pinned (.plain (OpenSpec.ofChange evidenceKeepsSpec)) evidenceKeepsCard

/-- THE TIED CARD OF 'ledgerlaw15.ServerParses'. -/
def serverParsesCard : Claim7 := { stood := { row := serverParsesRow, standIns := [], harness := (true, "38ec93ea0f656bd335011bbbc2abdbc358fa5430f7631ed3ceb482e9b6e378a8"), looks := true }, kinds := [], alts := [], laidByText := true, laidKinds := [.data, .data, .data, .data, .data, .data, .sentinel, .sentinel, .listed, .data, .data, .pinned, .pinned], laidTests := true, laidLooks := .later }
def ServerParsesCardSaid : Prop := Claim7.holds Tryz.pinned (.plain (OpenSpec.ofChange serverParsesSpec)) serverParsesCard

/-- THE TIED CARD OF 'ledgerlaw18.EvidenceTwice'. -/
def evidenceTwiceCard : Claim7 := { stood := { row := evidenceTwiceRow, standIns := [], harness := (true, "38ec93ea0f656bd335011bbbc2abdbc358fa5430f7631ed3ceb482e9b6e378a8"), looks := true }, kinds := [], alts := [], laidByText := true, laidKinds := [.data, .data, .data, .data, .widerDeep, .widerDeep, .data, .data, .pinned, .pinned], laidTests := true, laidLooks := .later }
def EvidenceTwiceCardSaid : Prop := Claim7.holds Tryz.pinned (.plain (OpenSpec.ofChange evidenceTwiceSpec)) evidenceTwiceCard

/-- THE SECOND FORM's CARD OF 'ledgerlaw18.EvidenceStands'. -/
def evidenceStandsUptoCard : Claim7 := { stood := { row := evidenceStandsUptoRow, standIns := [], harness := (true, "38ec93ea0f656bd335011bbbc2abdbc358fa5430f7631ed3ceb482e9b6e378a8"), looks := true }, kinds := [], alts := [], laidByText := true, laidKinds := [.data, .data, .data, .data, .data, .data, .data, .data, .widerDeep, .widerDeep, .data, .data, .pinned, .pinned], laidTests := true, laidLooks := .later }
def EvidenceStandsUptoCardSaid : Prop := Claim7.holds Tryz.pinned (.plain (OpenSpec.upto evidenceStandsSpec)) evidenceStandsUptoCard

/-- THE SECOND FORM's CARD OF 'ledgerlaw18.EvidenceRight'. -/
def evidenceRightUptoCard : Claim7 := { stood := { row := evidenceRightUptoRow, standIns := [], harness := (true, "38ec93ea0f656bd335011bbbc2abdbc358fa5430f7631ed3ceb482e9b6e378a8"), looks := true }, kinds := [], alts := [], laidByText := true, laidKinds := [.data, .data, .data, .data, .widerDeep, .widerDeep, .data, .data, .pinned, .pinned], laidTests := true, laidLooks := .later }
def EvidenceRightUptoCardSaid : Prop := Claim7.holds Tryz.pinned (.plain (OpenSpec.upto evidenceRightSpec)) evidenceRightUptoCard

/-- THE SECOND FORM's CARD OF 'ledgerlaw18.EvidenceJudges'. -/
def evidenceJudgesUptoCard : Claim7 := { stood := { row := evidenceJudgesUptoRow, standIns := [], harness := (true, "38ec93ea0f656bd335011bbbc2abdbc358fa5430f7631ed3ceb482e9b6e378a8"), looks := true }, kinds := [], alts := [], laidByText := true, laidKinds := [.data, .data, .data, .data, .widerDeep, .widerDeep, .data, .data, .pinned, .pinned], laidTests := true, laidLooks := .later }
def EvidenceJudgesUptoCardSaid : Prop := Claim7.holds Tryz.pinned (.plain (OpenSpec.upto evidenceJudgesSpec)) evidenceJudgesUptoCard

/-- THE SECOND FORM's CARD OF 'ledgerlaw18.EvidenceKeeps'. -/
def evidenceKeepsUptoCard : Claim7 := { stood := { row := evidenceKeepsUptoRow, standIns := [], harness := (true, "38ec93ea0f656bd335011bbbc2abdbc358fa5430f7631ed3ceb482e9b6e378a8"), looks := true }, kinds := [], alts := [], laidByText := true, laidKinds := [.data, .data, .data, .data, .widerDeep, .widerDeep, .data, .data, .pinned, .pinned], laidTests := true, laidLooks := .later }
def EvidenceKeepsUptoCardSaid : Prop := Claim7.holds Tryz.pinned (.plain (OpenSpec.upto evidenceKeepsSpec)) evidenceKeepsUptoCard

/-- THE SECOND FORM's CARD OF 'ledgerlaw15.ServerParses'. -/
def serverParsesUptoCard : Claim7 := { stood := { row := serverParsesUptoRow, standIns := [], harness := (true, "38ec93ea0f656bd335011bbbc2abdbc358fa5430f7631ed3ceb482e9b6e378a8"), looks := true }, kinds := [], alts := [], laidByText := true, laidKinds := [.data, .data, .data, .data, .data, .data, .sentinel, .sentinel, .listed, .data, .data, .pinned, .pinned], laidTests := true, laidLooks := .later }
def ServerParsesUptoCardSaid : Prop := Claim7.holds Tryz.pinned (.plain (OpenSpec.upto serverParsesSpec)) serverParsesUptoCard

/-- THE SECOND FORM's CARD OF 'ledgerlaw18.EvidenceTwice'. -/
def evidenceTwiceUptoCard : Claim7 := { stood := { row := evidenceTwiceUptoRow, standIns := [], harness := (true, "38ec93ea0f656bd335011bbbc2abdbc358fa5430f7631ed3ceb482e9b6e378a8"), looks := true }, kinds := [], alts := [], laidByText := true, laidKinds := [.data, .data, .data, .data, .widerDeep, .widerDeep, .data, .data, .pinned, .pinned], laidTests := true, laidLooks := .later }
def EvidenceTwiceUptoCardSaid : Prop := Claim7.holds Tryz.pinned (.plain (OpenSpec.upto evidenceTwiceSpec)) evidenceTwiceUptoCard
end Rows
end Go.Proofs.YtdfdikpklddnhaaGreatDoor
