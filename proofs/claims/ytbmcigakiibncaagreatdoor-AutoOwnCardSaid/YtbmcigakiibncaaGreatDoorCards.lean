/-
  DERIVED. GIVEN WITH THE SEED: THE CARDS: each row of YtbmcigakiibncaaGreatDoorRows.lean that lists a variable, with what it lists TIED to the program's text (the seventh form; the later family's looks); each row that meets fmt, with fmt's text TOLD by the authors' own Lean function (tested against real Go, not proved from fmt's source: count such statements apart). THE CARD IS WHAT COUNTS. Prove the row's statement (the work); the ties are given (YtbmcigakiibncaaGreatDoorTie.lean); close each card by the builder's one call (the guide's Derived/Test/ToyasCard.lean, 'card_holds'). Laid BY PROGRAM, IN A SANDBOX (cutbox-door.mjs). By AI agents, Wed Nov 11 2026. No macro, syntax, notation, axiom, sorry.
-/
import Derived.Test.YtbmcigakiibncaaGreatDoorRows
import GoSem.ClaimSeven
namespace Go.Proofs.YtbmcigakiibncaaGreatDoor
namespace Rows

/-- THE TIED CARD OF 'virgationlaw09.AutoStates'. -/
def autoStatesCard : Claim7 := { stood := { row := autoStatesRow, standIns := [], harness := (true, "51b1f26bc492060b865e468d9ad6a466d9155989bce4823ec7afcb762e5b03a7"), looks := true }, kinds := [], alts := [], laidByText := true, laidKinds := [.data, .data, .data, .data, .sentinel, .sentinel, .pinned], laidTests := true, laidLooks := .later }
def AutoStatesCardSaid : Prop := Claim7.holds Tryz.pinned (.plain (OpenSpec.ofChange autoStatesSpec)) autoStatesCard

/-- THE TIED CARD OF 'virgationlaw09.AutoDual'. -/
def autoDualCard : Claim7 := { stood := { row := autoDualRow, standIns := [], harness := (true, "51b1f26bc492060b865e468d9ad6a466d9155989bce4823ec7afcb762e5b03a7"), looks := true }, kinds := [], alts := [], laidByText := true, laidKinds := [.data, .data, .data, .data, .sentinel, .sentinel, .pinned], laidTests := true, laidLooks := .later }
def AutoDualCardSaid : Prop := Claim7.holds Tryz.pinned (.plain (OpenSpec.ofChange autoDualSpec)) autoDualCard

/-- THE TIED CARD OF 'virgationlaw09.AutoPut'. -/
def autoPutCard : Claim7 := { stood := { row := autoPutRow, standIns := [], harness := (true, "51b1f26bc492060b865e468d9ad6a466d9155989bce4823ec7afcb762e5b03a7"), looks := true }, kinds := [], alts := [], laidByText := true, laidKinds := [.data, .data, .data, .data, .sentinel, .sentinel, .pinned], laidTests := true, laidLooks := .later }
def AutoPutCardSaid : Prop := Claim7.holds Tryz.pinned (.plain (OpenSpec.ofChange autoPutSpec)) autoPutCard

/-- THE TIED CARD OF 'virgationlaw09.AutoGet'. -/
def autoGetCard : Claim7 := { stood := { row := autoGetRow, standIns := [], harness := (true, "51b1f26bc492060b865e468d9ad6a466d9155989bce4823ec7afcb762e5b03a7"), looks := true }, kinds := [], alts := [], laidByText := true, laidKinds := [.data, .data, .data, .data, .sentinel, .sentinel, .pinned], laidTests := true, laidLooks := .later }
def AutoGetCardSaid : Prop := Claim7.holds Tryz.pinned (.plain (OpenSpec.ofChange autoGetSpec)) autoGetCard

/-- THE TIED CARD OF 'virgationlaw09.AutoRound'. -/
def autoRoundCard : Claim7 := { stood := { row := autoRoundRow, standIns := [], harness := (true, "51b1f26bc492060b865e468d9ad6a466d9155989bce4823ec7afcb762e5b03a7"), looks := true }, kinds := [], alts := [], laidByText := true, laidKinds := [.data, .data, .data, .data, .sentinel, .sentinel, .pinned], laidTests := true, laidLooks := .later }
def AutoRoundCardSaid : Prop := Claim7.holds Tryz.pinned (.plain (OpenSpec.ofChange autoRoundSpec)) autoRoundCard

/-- THE TIED CARD OF 'virgationlaw09.AutoDuality'. -/
def autoDualityCard : Claim7 := { stood := { row := autoDualityRow, standIns := [], harness := (true, "51b1f26bc492060b865e468d9ad6a466d9155989bce4823ec7afcb762e5b03a7"), looks := true }, kinds := [], alts := [], laidByText := true, laidKinds := [.data, .data, .data, .data, .sentinel, .sentinel, .pinned], laidTests := true, laidLooks := .later }
def AutoDualityCardSaid : Prop := Claim7.holds Tryz.pinned (.plain (OpenSpec.ofChange autoDualitySpec)) autoDualityCard

/-- THE TIED CARD OF 'virgationlaw09.AutoCheck'. -/
def autoCheckCard : Claim7 := { stood := { row := autoCheckRow, standIns := [], harness := (true, "51b1f26bc492060b865e468d9ad6a466d9155989bce4823ec7afcb762e5b03a7"), looks := true }, kinds := [], alts := [], laidByText := true, laidKinds := [.data, .data, .data, .data, .sentinel, .sentinel, .pinned], laidTests := true, laidLooks := .later }
def AutoCheckCardSaid : Prop := Claim7.holds Tryz.pinned (.plain (OpenSpec.ofChange autoCheckSpec)) autoCheckCard

/-- THE TIED CARD OF 'virgationlaw09.AutoSame'. -/
def autoSameCard : Claim7 := { stood := { row := autoSameRow, standIns := [], harness := (true, "51b1f26bc492060b865e468d9ad6a466d9155989bce4823ec7afcb762e5b03a7"), looks := true }, kinds := [], alts := [], laidByText := true, laidKinds := [.data, .data, .data, .data, .sentinel, .sentinel, .pinned], laidTests := true, laidLooks := .later }
def AutoSameCardSaid : Prop := Claim7.holds Tryz.pinned (.plain (OpenSpec.ofChange autoSameSpec)) autoSameCard

/-- THE TIED CARD OF 'virgationlaw09.AutoParts'. -/
def autoPartsCard : Claim7 := { stood := { row := autoPartsRow, standIns := [], harness := (true, "51b1f26bc492060b865e468d9ad6a466d9155989bce4823ec7afcb762e5b03a7"), looks := true }, kinds := [], alts := [], laidByText := true, laidKinds := [.data, .data, .data, .data, .sentinel, .sentinel, .pinned], laidTests := true, laidLooks := .later }
def AutoPartsCardSaid : Prop := Claim7.holds Tryz.pinned (.plain (OpenSpec.ofChange autoPartsSpec)) autoPartsCard

/-- THE TIED CARD OF 'virgationlaw09.AutoOwn'. -/
def autoOwnCard : Claim7 := { stood := { row := autoOwnRow, standIns := [], harness := (true, "51b1f26bc492060b865e468d9ad6a466d9155989bce4823ec7afcb762e5b03a7"), looks := true }, kinds := [], alts := [], laidByText := true, laidKinds := [.data, .data, .data, .data, .sentinel, .sentinel, .pinned], laidTests := true, laidLooks := .later }
def AutoOwnCardSaid : Prop := Claim7.holds Tryz.pinned (.plain (OpenSpec.ofChange autoOwnSpec)) autoOwnCard

/-- THE SECOND FORM's CARD OF 'virgationlaw09.AutoStates'. -/
def autoStatesUptoCard : Claim7 := { stood := { row := autoStatesUptoRow, standIns := [], harness := (true, "51b1f26bc492060b865e468d9ad6a466d9155989bce4823ec7afcb762e5b03a7"), looks := true }, kinds := [], alts := [], laidByText := true, laidKinds := [.data, .data, .data, .data, .sentinel, .sentinel, .pinned], laidTests := true, laidLooks := .later }
def AutoStatesUptoCardSaid : Prop := Claim7.holds Tryz.pinned (.plain (OpenSpec.upto autoStatesSpec)) autoStatesUptoCard

/-- THE SECOND FORM's CARD OF 'virgationlaw09.AutoDual'. -/
def autoDualUptoCard : Claim7 := { stood := { row := autoDualUptoRow, standIns := [], harness := (true, "51b1f26bc492060b865e468d9ad6a466d9155989bce4823ec7afcb762e5b03a7"), looks := true }, kinds := [], alts := [], laidByText := true, laidKinds := [.data, .data, .data, .data, .sentinel, .sentinel, .pinned], laidTests := true, laidLooks := .later }
def AutoDualUptoCardSaid : Prop := Claim7.holds Tryz.pinned (.plain (OpenSpec.upto autoDualSpec)) autoDualUptoCard

/-- THE SECOND FORM's CARD OF 'virgationlaw09.AutoPut'. -/
def autoPutUptoCard : Claim7 := { stood := { row := autoPutUptoRow, standIns := [], harness := (true, "51b1f26bc492060b865e468d9ad6a466d9155989bce4823ec7afcb762e5b03a7"), looks := true }, kinds := [], alts := [], laidByText := true, laidKinds := [.data, .data, .data, .data, .sentinel, .sentinel, .pinned], laidTests := true, laidLooks := .later }
def AutoPutUptoCardSaid : Prop := Claim7.holds Tryz.pinned (.plain (OpenSpec.upto autoPutSpec)) autoPutUptoCard

/-- THE SECOND FORM's CARD OF 'virgationlaw09.AutoGet'. -/
def autoGetUptoCard : Claim7 := { stood := { row := autoGetUptoRow, standIns := [], harness := (true, "51b1f26bc492060b865e468d9ad6a466d9155989bce4823ec7afcb762e5b03a7"), looks := true }, kinds := [], alts := [], laidByText := true, laidKinds := [.data, .data, .data, .data, .sentinel, .sentinel, .pinned], laidTests := true, laidLooks := .later }
def AutoGetUptoCardSaid : Prop := Claim7.holds Tryz.pinned (.plain (OpenSpec.upto autoGetSpec)) autoGetUptoCard

/-- THE SECOND FORM's CARD OF 'virgationlaw09.AutoRound'. -/
def autoRoundUptoCard : Claim7 := { stood := { row := autoRoundUptoRow, standIns := [], harness := (true, "51b1f26bc492060b865e468d9ad6a466d9155989bce4823ec7afcb762e5b03a7"), looks := true }, kinds := [], alts := [], laidByText := true, laidKinds := [.data, .data, .data, .data, .sentinel, .sentinel, .pinned], laidTests := true, laidLooks := .later }
def AutoRoundUptoCardSaid : Prop := Claim7.holds Tryz.pinned (.plain (OpenSpec.upto autoRoundSpec)) autoRoundUptoCard

/-- THE SECOND FORM's CARD OF 'virgationlaw09.AutoDuality'. -/
def autoDualityUptoCard : Claim7 := { stood := { row := autoDualityUptoRow, standIns := [], harness := (true, "51b1f26bc492060b865e468d9ad6a466d9155989bce4823ec7afcb762e5b03a7"), looks := true }, kinds := [], alts := [], laidByText := true, laidKinds := [.data, .data, .data, .data, .sentinel, .sentinel, .pinned], laidTests := true, laidLooks := .later }
def AutoDualityUptoCardSaid : Prop := Claim7.holds Tryz.pinned (.plain (OpenSpec.upto autoDualitySpec)) autoDualityUptoCard

/-- THE SECOND FORM's CARD OF 'virgationlaw09.AutoCheck'. -/
def autoCheckUptoCard : Claim7 := { stood := { row := autoCheckUptoRow, standIns := [], harness := (true, "51b1f26bc492060b865e468d9ad6a466d9155989bce4823ec7afcb762e5b03a7"), looks := true }, kinds := [], alts := [], laidByText := true, laidKinds := [.data, .data, .data, .data, .sentinel, .sentinel, .pinned], laidTests := true, laidLooks := .later }
def AutoCheckUptoCardSaid : Prop := Claim7.holds Tryz.pinned (.plain (OpenSpec.upto autoCheckSpec)) autoCheckUptoCard

/-- THE SECOND FORM's CARD OF 'virgationlaw09.AutoSame'. -/
def autoSameUptoCard : Claim7 := { stood := { row := autoSameUptoRow, standIns := [], harness := (true, "51b1f26bc492060b865e468d9ad6a466d9155989bce4823ec7afcb762e5b03a7"), looks := true }, kinds := [], alts := [], laidByText := true, laidKinds := [.data, .data, .data, .data, .sentinel, .sentinel, .pinned], laidTests := true, laidLooks := .later }
def AutoSameUptoCardSaid : Prop := Claim7.holds Tryz.pinned (.plain (OpenSpec.upto autoSameSpec)) autoSameUptoCard

/-- THE SECOND FORM's CARD OF 'virgationlaw09.AutoParts'. -/
def autoPartsUptoCard : Claim7 := { stood := { row := autoPartsUptoRow, standIns := [], harness := (true, "51b1f26bc492060b865e468d9ad6a466d9155989bce4823ec7afcb762e5b03a7"), looks := true }, kinds := [], alts := [], laidByText := true, laidKinds := [.data, .data, .data, .data, .sentinel, .sentinel, .pinned], laidTests := true, laidLooks := .later }
def AutoPartsUptoCardSaid : Prop := Claim7.holds Tryz.pinned (.plain (OpenSpec.upto autoPartsSpec)) autoPartsUptoCard

/-- THE SECOND FORM's CARD OF 'virgationlaw09.AutoOwn'. -/
def autoOwnUptoCard : Claim7 := { stood := { row := autoOwnUptoRow, standIns := [], harness := (true, "51b1f26bc492060b865e468d9ad6a466d9155989bce4823ec7afcb762e5b03a7"), looks := true }, kinds := [], alts := [], laidByText := true, laidKinds := [.data, .data, .data, .data, .sentinel, .sentinel, .pinned], laidTests := true, laidLooks := .later }
def AutoOwnUptoCardSaid : Prop := Claim7.holds Tryz.pinned (.plain (OpenSpec.upto autoOwnSpec)) autoOwnUptoCard
end Rows
end Go.Proofs.YtbmcigakiibncaaGreatDoor
