/-
  DERIVED. GIVEN WITH THE SEED: THE CARDS: each row of YtiddiboclfpklaaDoorRows.lean that lists a variable, with what it lists TIED to the program's text (the seventh form; the later family's looks); each row that meets fmt, with fmt's text TOLD by the authors' own Lean function (tested against real Go, not proved from fmt's source: count such statements apart). THE CARD IS WHAT COUNTS. Prove the row's statement (the work); the ties are given (YtiddiboclfpklaaDoorTie.lean); close each card by the builder's one call (the guide's Derived/Test/ToyasCard.lean, 'card_holds'). Laid BY PROGRAM, IN A SANDBOX (cutbox-door.mjs). By AI agents, Wed Nov 11 2026. No macro, syntax, notation, axiom, sorry.
-/
import Derived.Test.YtiddiboclfpklaaDoorRows
import GoSem.ClaimSeven
namespace Go.Proofs.YtiddiboclfpklaaDoor
namespace Rows

/-- THE TIED CARD OF 'instarlaw04.TextsNums'. -/
def textsNumsCard : Claim7 := { stood := { row := textsNumsRow, standIns := [], harness := (true, "2a0cb1f530968b1c4453643c34c1681fb79312b7867534dd15a0665289057ef0"), looks := false }, kinds := [], alts := [], laidByText := true, laidKinds := [.data, .pinned], laidTests := true, laidLooks := .later }
def TextsNumsCardSaid : Prop := Claim7.holds Tryd.pinned (.plain (OpenSpec.ofChange textsNumsSpec)) textsNumsCard

/-- THE TIED CARD OF 'instarlaw04.TextsBytes'. -/
def textsBytesCard : Claim7 := { stood := { row := textsBytesRow, standIns := [], harness := (true, "2a0cb1f530968b1c4453643c34c1681fb79312b7867534dd15a0665289057ef0"), looks := false }, kinds := [], alts := [], laidByText := true, laidKinds := [.data, .pinned], laidTests := true, laidLooks := .later }
def TextsBytesCardSaid : Prop := Claim7.holds Tryd.pinned (.plain (OpenSpec.ofChange textsBytesSpec)) textsBytesCard

/-- THE TIED CARD OF 'instarlaw04.TextsLines'. -/
def textsLinesCard : Claim7 := { stood := { row := textsLinesRow, standIns := [], harness := (true, "2a0cb1f530968b1c4453643c34c1681fb79312b7867534dd15a0665289057ef0"), looks := false }, kinds := [], alts := [], laidByText := true, laidKinds := [.data, .pinned], laidTests := true, laidLooks := .later }
def TextsLinesCardSaid : Prop := Claim7.holds Tryd.pinned (.plain (OpenSpec.ofChange textsLinesSpec)) textsLinesCard

/-- THE TIED CARD OF 'instarlaw04.TextsBack'. -/
def textsBackCard : Claim7 := { stood := { row := textsBackRow, standIns := [], harness := (true, "2a0cb1f530968b1c4453643c34c1681fb79312b7867534dd15a0665289057ef0"), looks := false }, kinds := [], alts := [], laidByText := true, laidKinds := [.data, .pinned], laidTests := true, laidLooks := .later }
def TextsBackCardSaid : Prop := Claim7.holds Tryd.pinned (.plain (OpenSpec.ofChange textsBackSpec)) textsBackCard

/-- THE TIED CARD OF 'instarlaw40.ScriptPrints'. -/
def scriptPrintsCard : Claim7 := { stood := { row := scriptPrintsRow, standIns := [], harness := (true, "2a0cb1f530968b1c4453643c34c1681fb79312b7867534dd15a0665289057ef0"), looks := false }, kinds := [], alts := [], laidByText := true, laidKinds := [.data, .pinned], laidTests := true, laidLooks := .later }
def ScriptPrintsCardSaid : Prop := Claim7.holds Tryd.pinned (.plain (OpenSpec.ofChange scriptPrintsSpec)) scriptPrintsCard

/-- THE TIED CARD OF 'instarlaw40.ScriptReads'. -/
def scriptReadsCard : Claim7 := { stood := { row := scriptReadsRow, standIns := [], harness := (true, "2a0cb1f530968b1c4453643c34c1681fb79312b7867534dd15a0665289057ef0"), looks := false }, kinds := [], alts := [], laidByText := true, laidKinds := [.data, .pinned], laidTests := true, laidLooks := .later }
def ScriptReadsCardSaid : Prop := Claim7.holds Tryd.pinned (.plain (OpenSpec.ofChange scriptReadsSpec)) scriptReadsCard

/-- THE TIED CARD OF 'instarlaw40.ScriptBack'. -/
def scriptBackCard : Claim7 := { stood := { row := scriptBackRow, standIns := [], harness := (true, "2a0cb1f530968b1c4453643c34c1681fb79312b7867534dd15a0665289057ef0"), looks := false }, kinds := [], alts := [], laidByText := true, laidKinds := [.data, .pinned], laidTests := true, laidLooks := .later }
def ScriptBackCardSaid : Prop := Claim7.holds Tryd.pinned (.plain (OpenSpec.ofChange scriptBackSpec)) scriptBackCard

/-- THE SECOND FORM's CARD OF 'instarlaw04.TextsNums'. -/
def textsNumsUptoCard : Claim7 := { stood := { row := textsNumsUptoRow, standIns := [], harness := (true, "2a0cb1f530968b1c4453643c34c1681fb79312b7867534dd15a0665289057ef0"), looks := false }, kinds := [], alts := [], laidByText := true, laidKinds := [.data, .pinned], laidTests := true, laidLooks := .later }
def TextsNumsUptoCardSaid : Prop := Claim7.holds Tryd.pinned (.plain (OpenSpec.upto textsNumsSpec)) textsNumsUptoCard

/-- THE SECOND FORM's CARD OF 'instarlaw04.TextsBytes'. -/
def textsBytesUptoCard : Claim7 := { stood := { row := textsBytesUptoRow, standIns := [], harness := (true, "2a0cb1f530968b1c4453643c34c1681fb79312b7867534dd15a0665289057ef0"), looks := false }, kinds := [], alts := [], laidByText := true, laidKinds := [.data, .pinned], laidTests := true, laidLooks := .later }
def TextsBytesUptoCardSaid : Prop := Claim7.holds Tryd.pinned (.plain (OpenSpec.upto textsBytesSpec)) textsBytesUptoCard

/-- THE SECOND FORM's CARD OF 'instarlaw04.TextsLines'. -/
def textsLinesUptoCard : Claim7 := { stood := { row := textsLinesUptoRow, standIns := [], harness := (true, "2a0cb1f530968b1c4453643c34c1681fb79312b7867534dd15a0665289057ef0"), looks := false }, kinds := [], alts := [], laidByText := true, laidKinds := [.data, .pinned], laidTests := true, laidLooks := .later }
def TextsLinesUptoCardSaid : Prop := Claim7.holds Tryd.pinned (.plain (OpenSpec.upto textsLinesSpec)) textsLinesUptoCard

/-- THE SECOND FORM's CARD OF 'instarlaw04.TextsBack'. -/
def textsBackUptoCard : Claim7 := { stood := { row := textsBackUptoRow, standIns := [], harness := (true, "2a0cb1f530968b1c4453643c34c1681fb79312b7867534dd15a0665289057ef0"), looks := false }, kinds := [], alts := [], laidByText := true, laidKinds := [.data, .pinned], laidTests := true, laidLooks := .later }
def TextsBackUptoCardSaid : Prop := Claim7.holds Tryd.pinned (.plain (OpenSpec.upto textsBackSpec)) textsBackUptoCard

/-- THE SECOND FORM's CARD OF 'instarlaw40.ScriptPrints'. -/
def scriptPrintsUptoCard : Claim7 := { stood := { row := scriptPrintsUptoRow, standIns := [], harness := (true, "2a0cb1f530968b1c4453643c34c1681fb79312b7867534dd15a0665289057ef0"), looks := false }, kinds := [], alts := [], laidByText := true, laidKinds := [.data, .pinned], laidTests := true, laidLooks := .later }
def ScriptPrintsUptoCardSaid : Prop := Claim7.holds Tryd.pinned (.plain (OpenSpec.upto scriptPrintsSpec)) scriptPrintsUptoCard

/-- THE SECOND FORM's CARD OF 'instarlaw40.ScriptReads'. -/
def scriptReadsUptoCard : Claim7 := { stood := { row := scriptReadsUptoRow, standIns := [], harness := (true, "2a0cb1f530968b1c4453643c34c1681fb79312b7867534dd15a0665289057ef0"), looks := false }, kinds := [], alts := [], laidByText := true, laidKinds := [.data, .pinned], laidTests := true, laidLooks := .later }
def ScriptReadsUptoCardSaid : Prop := Claim7.holds Tryd.pinned (.plain (OpenSpec.upto scriptReadsSpec)) scriptReadsUptoCard

/-- THE SECOND FORM's CARD OF 'instarlaw40.ScriptBack'. -/
def scriptBackUptoCard : Claim7 := { stood := { row := scriptBackUptoRow, standIns := [], harness := (true, "2a0cb1f530968b1c4453643c34c1681fb79312b7867534dd15a0665289057ef0"), looks := false }, kinds := [], alts := [], laidByText := true, laidKinds := [.data, .pinned], laidTests := true, laidLooks := .later }
def ScriptBackUptoCardSaid : Prop := Claim7.holds Tryd.pinned (.plain (OpenSpec.upto scriptBackSpec)) scriptBackUptoCard
end Rows
end Go.Proofs.YtiddiboclfpklaaDoor
