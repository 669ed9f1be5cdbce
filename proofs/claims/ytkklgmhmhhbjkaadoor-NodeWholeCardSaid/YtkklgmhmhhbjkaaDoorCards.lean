/-
  DERIVED. GIVEN WITH THE SEED: THE CARDS: each row of YtkklgmhmhhbjkaaDoorRows.lean that lists a variable, with what it lists TIED to the program's text (the seventh form; the later family's looks); each row that meets fmt, with fmt's text TOLD by the authors' own Lean function (tested against real Go, not proved from fmt's source: count such statements apart). THE CARD IS WHAT COUNTS. Prove the row's statement (the work); the ties are given (YtkklgmhmhhbjkaaDoorTie.lean); close each card by the builder's one call (the guide's Derived/Test/ToyasCard.lean, 'card_holds'). Laid BY PROGRAM, IN A SANDBOX (cutbox-door.mjs). By AI agents, Wed Nov 11 2026. No macro, syntax, notation, axiom, sorry.
-/
import Derived.Test.YtkklgmhmhhbjkaaDoorRows
import GoSem.ClaimSeven
namespace Go.Proofs.YtkklgmhmhhbjkaaDoor
namespace Rows

/-- THE TIED CARD OF 'witnesslaw7.NodeTexts'. -/
def nodeTextsCard : Claim7 := { stood := { row := nodeTextsRow, standIns := [], harness := (true, "e9443ddc029aa2076aa1995a3519d91a048d10b52f5622608445be2d07f9b90a"), looks := false }, kinds := [], alts := [], laidByText := true, laidKinds := [.data], laidTests := true, laidLooks := .later }
def NodeTextsCardSaid : Prop := Claim7.holds Tryd.pinned (.plain (OpenSpec.ofChange nodeTextsSpec)) nodeTextsCard

/-- THE TIED CARD OF 'witnesslaw7.NodeSorts'. -/
def nodeSortsCard : Claim7 := { stood := { row := nodeSortsRow, standIns := [], harness := (true, "e9443ddc029aa2076aa1995a3519d91a048d10b52f5622608445be2d07f9b90a"), looks := false }, kinds := [], alts := [], laidByText := true, laidKinds := [.data], laidTests := true, laidLooks := .later }
def NodeSortsCardSaid : Prop := Claim7.holds Tryd.pinned (.plain (OpenSpec.ofChange nodeSortsSpec)) nodeSortsCard

/-- THE TIED CARD OF 'witnesslaw7.NodeHeights'. -/
def nodeHeightsCard : Claim7 := { stood := { row := nodeHeightsRow, standIns := [], harness := (true, "e9443ddc029aa2076aa1995a3519d91a048d10b52f5622608445be2d07f9b90a"), looks := false }, kinds := [], alts := [], laidByText := true, laidKinds := [.data, .data, .data], laidTests := true, laidLooks := .later }
def NodeHeightsCardSaid : Prop := Claim7.holds Tryd.pinned (.plain (OpenSpec.ofChange nodeHeightsSpec)) nodeHeightsCard

/-- THE TIED CARD OF 'witnesslaw7.NodeValids'. -/
def nodeValidsCard : Claim7 := { stood := { row := nodeValidsRow, standIns := [], harness := (true, "e9443ddc029aa2076aa1995a3519d91a048d10b52f5622608445be2d07f9b90a"), looks := false }, kinds := [], alts := [], laidByText := true, laidKinds := [.data, .data, .data], laidTests := true, laidLooks := .later }
def NodeValidsCardSaid : Prop := Claim7.holds Tryd.pinned (.plain (OpenSpec.ofChange nodeValidsSpec)) nodeValidsCard

/-- THE TIED CARD OF 'witnesslaw7.NodeLabels'. -/
def nodeLabelsCard : Claim7 := { stood := { row := nodeLabelsRow, standIns := [], harness := (true, "e9443ddc029aa2076aa1995a3519d91a048d10b52f5622608445be2d07f9b90a"), looks := false }, kinds := [], alts := [], laidByText := true, laidKinds := [.data, .data, .data], laidTests := true, laidLooks := .later }
def NodeLabelsCardSaid : Prop := Claim7.holds Tryd.pinned (.plain (OpenSpec.ofChange nodeLabelsSpec)) nodeLabelsCard

/-- THE TIED CARD OF 'witnesslaw7.NodeRoots'. -/
def nodeRootsCard : Claim7 := { stood := { row := nodeRootsRow, standIns := [], harness := (true, "e9443ddc029aa2076aa1995a3519d91a048d10b52f5622608445be2d07f9b90a"), looks := false }, kinds := [], alts := [], laidByText := true, laidKinds := [.data, .data, .data], laidTests := true, laidLooks := .later }
def NodeRootsCardSaid : Prop := Claim7.holds Tryd.pinned (.plain (OpenSpec.ofChange nodeRootsSpec)) nodeRootsCard

/-- THE TIED CARD OF 'witnesslaw7.NodeWhole'. -/
def nodeWholeCard : Claim7 := { stood := { row := nodeWholeRow, standIns := [], harness := (true, "e9443ddc029aa2076aa1995a3519d91a048d10b52f5622608445be2d07f9b90a"), looks := false }, kinds := [], alts := [], laidByText := true, laidKinds := [.data, .data, .data], laidTests := true, laidLooks := .later }
def NodeWholeCardSaid : Prop := Claim7.holds Tryd.pinned (.plain (OpenSpec.ofChange nodeWholeSpec)) nodeWholeCard

/-- THE SECOND FORM's CARD OF 'witnesslaw7.NodeTexts'. -/
def nodeTextsUptoCard : Claim7 := { stood := { row := nodeTextsUptoRow, standIns := [], harness := (true, "e9443ddc029aa2076aa1995a3519d91a048d10b52f5622608445be2d07f9b90a"), looks := false }, kinds := [], alts := [], laidByText := true, laidKinds := [.data], laidTests := true, laidLooks := .later }
def NodeTextsUptoCardSaid : Prop := Claim7.holds Tryd.pinned (.plain (OpenSpec.upto nodeTextsSpec)) nodeTextsUptoCard

/-- THE SECOND FORM's CARD OF 'witnesslaw7.NodeSorts'. -/
def nodeSortsUptoCard : Claim7 := { stood := { row := nodeSortsUptoRow, standIns := [], harness := (true, "e9443ddc029aa2076aa1995a3519d91a048d10b52f5622608445be2d07f9b90a"), looks := false }, kinds := [], alts := [], laidByText := true, laidKinds := [.data], laidTests := true, laidLooks := .later }
def NodeSortsUptoCardSaid : Prop := Claim7.holds Tryd.pinned (.plain (OpenSpec.upto nodeSortsSpec)) nodeSortsUptoCard

/-- THE SECOND FORM's CARD OF 'witnesslaw7.NodeHeights'. -/
def nodeHeightsUptoCard : Claim7 := { stood := { row := nodeHeightsUptoRow, standIns := [], harness := (true, "e9443ddc029aa2076aa1995a3519d91a048d10b52f5622608445be2d07f9b90a"), looks := false }, kinds := [], alts := [], laidByText := true, laidKinds := [.data, .data, .data], laidTests := true, laidLooks := .later }
def NodeHeightsUptoCardSaid : Prop := Claim7.holds Tryd.pinned (.plain (OpenSpec.upto nodeHeightsSpec)) nodeHeightsUptoCard

/-- THE SECOND FORM's CARD OF 'witnesslaw7.NodeValids'. -/
def nodeValidsUptoCard : Claim7 := { stood := { row := nodeValidsUptoRow, standIns := [], harness := (true, "e9443ddc029aa2076aa1995a3519d91a048d10b52f5622608445be2d07f9b90a"), looks := false }, kinds := [], alts := [], laidByText := true, laidKinds := [.data, .data, .data], laidTests := true, laidLooks := .later }
def NodeValidsUptoCardSaid : Prop := Claim7.holds Tryd.pinned (.plain (OpenSpec.upto nodeValidsSpec)) nodeValidsUptoCard

/-- THE SECOND FORM's CARD OF 'witnesslaw7.NodeLabels'. -/
def nodeLabelsUptoCard : Claim7 := { stood := { row := nodeLabelsUptoRow, standIns := [], harness := (true, "e9443ddc029aa2076aa1995a3519d91a048d10b52f5622608445be2d07f9b90a"), looks := false }, kinds := [], alts := [], laidByText := true, laidKinds := [.data, .data, .data], laidTests := true, laidLooks := .later }
def NodeLabelsUptoCardSaid : Prop := Claim7.holds Tryd.pinned (.plain (OpenSpec.upto nodeLabelsSpec)) nodeLabelsUptoCard

/-- THE SECOND FORM's CARD OF 'witnesslaw7.NodeRoots'. -/
def nodeRootsUptoCard : Claim7 := { stood := { row := nodeRootsUptoRow, standIns := [], harness := (true, "e9443ddc029aa2076aa1995a3519d91a048d10b52f5622608445be2d07f9b90a"), looks := false }, kinds := [], alts := [], laidByText := true, laidKinds := [.data, .data, .data], laidTests := true, laidLooks := .later }
def NodeRootsUptoCardSaid : Prop := Claim7.holds Tryd.pinned (.plain (OpenSpec.upto nodeRootsSpec)) nodeRootsUptoCard

/-- THE SECOND FORM's CARD OF 'witnesslaw7.NodeWhole'. -/
def nodeWholeUptoCard : Claim7 := { stood := { row := nodeWholeUptoRow, standIns := [], harness := (true, "e9443ddc029aa2076aa1995a3519d91a048d10b52f5622608445be2d07f9b90a"), looks := false }, kinds := [], alts := [], laidByText := true, laidKinds := [.data, .data, .data], laidTests := true, laidLooks := .later }
def NodeWholeUptoCardSaid : Prop := Claim7.holds Tryd.pinned (.plain (OpenSpec.upto nodeWholeSpec)) nodeWholeUptoCard
end Rows
end Go.Proofs.YtkklgmhmhhbjkaaDoor
