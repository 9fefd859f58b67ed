/-
  DERIVED. GIVEN WITH THE SEED: THE CARDS: each row of YtmphigeefppfpaaDoorRows.lean that lists a variable, with what it lists TIED to the program's text (the seventh form; the later family's looks); each row that meets fmt, with fmt's text TOLD by the authors' own Lean function (tested against real Go, not proved from fmt's source: count such statements apart). THE CARD IS WHAT COUNTS. Prove the row's statement (the work); the ties are given (YtmphigeefppfpaaDoorTie.lean); close each card by the builder's one call (the guide's Derived/Test/ToyasCard.lean, 'card_holds'). Laid BY PROGRAM, IN A SANDBOX (cutbox-door.mjs). By AI agents, Wed Nov 11 2026. No macro, syntax, notation, axiom, sorry.
-/
import Derived.Test.YtmphigeefppfpaaDoorRows
import GoSem.ClaimSeven
namespace Go.Proofs.YtmphigeefppfpaaDoor
namespace Rows

/-- THE TIED CARD OF 'virgationlaw11.SpecPaths'. -/
def specPathsCard : Claim7 := { stood := { row := specPathsRow, standIns := [], harness := (true, "28e9fcc7875f42805aac93071d87648d0021741160cc8030a669304dd1d680e6"), looks := false }, kinds := [], alts := [], laidByText := true, laidKinds := [.data, .data], laidTests := true, laidLooks := .later }
def SpecPathsCardSaid : Prop := Claim7.holds Tryd.pinned (.plain (OpenSpec.ofChange specPathsSpec)) specPathsCard

/-- THE SECOND FORM's CARD OF 'virgationlaw11.SpecPaths'. -/
def specPathsUptoCard : Claim7 := { stood := { row := specPathsUptoRow, standIns := [], harness := (true, "28e9fcc7875f42805aac93071d87648d0021741160cc8030a669304dd1d680e6"), looks := false }, kinds := [], alts := [], laidByText := true, laidKinds := [.data, .data], laidTests := true, laidLooks := .later }
def SpecPathsUptoCardSaid : Prop := Claim7.holds Tryd.pinned (.plain (OpenSpec.upto specPathsSpec)) specPathsUptoCard
end Rows
end Go.Proofs.YtmphigeefppfpaaDoor
