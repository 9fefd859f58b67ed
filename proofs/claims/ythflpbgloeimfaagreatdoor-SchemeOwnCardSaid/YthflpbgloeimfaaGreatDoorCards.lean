/-
  DERIVED. GIVEN WITH THE SEED: THE CARDS: each row of YthflpbgloeimfaaGreatDoorRows.lean that lists a variable, with what it lists TIED to the program's text (the seventh form; the later family's looks); each row that meets fmt, with fmt's text TOLD by the authors' own Lean function (tested against real Go, not proved from fmt's source: count such statements apart). THE CARD IS WHAT COUNTS. Prove the row's statement (the work); the ties are given (YthflpbgloeimfaaGreatDoorTie.lean); close each card by the builder's one call (the guide's Derived/Test/ToyasCard.lean, 'card_holds'). Laid BY PROGRAM, IN A SANDBOX (cutbox-door.mjs). By AI agents, Wed Nov 11 2026. No macro, syntax, notation, axiom, sorry.
-/
import Derived.Test.YthflpbgloeimfaaGreatDoorRows
import GoSem.ClaimSeven
namespace Go.Proofs.YthflpbgloeimfaaGreatDoor
namespace Rows

/-- THE TIED CARD OF 'virgationlaw03.SchemeCheck'. -/
def schemeCheckCard : Claim7 := { stood := { row := schemeCheckRow, standIns := [], harness := (true, "c860269112dfd2690ddfbcca2989c5b60b44fea907fc57a7d3605c6d49e68296"), looks := true }, kinds := [], alts := [], laidByText := true, laidKinds := [.data, .data, .data, .data, .sentinel, .sentinel, .pinned], laidTests := true, laidLooks := .later }
def SchemeCheckCardSaid : Prop := Claim7.holds Tryz.pinned (.plain (OpenSpec.ofChange schemeCheckSpec)) schemeCheckCard

/-- THE TIED CARD OF 'virgationlaw03.SchemePut'. -/
def schemePutCard : Claim7 := { stood := { row := schemePutRow, standIns := [], harness := (true, "c860269112dfd2690ddfbcca2989c5b60b44fea907fc57a7d3605c6d49e68296"), looks := true }, kinds := [], alts := [], laidByText := true, laidKinds := [.data, .data, .data, .data, .sentinel, .sentinel, .pinned], laidTests := true, laidLooks := .later }
def SchemePutCardSaid : Prop := Claim7.holds Tryz.pinned (.plain (OpenSpec.ofChange schemePutSpec)) schemePutCard

/-- THE TIED CARD OF 'virgationlaw03.SchemeGet'. -/
def schemeGetCard : Claim7 := { stood := { row := schemeGetRow, standIns := [], harness := (true, "c860269112dfd2690ddfbcca2989c5b60b44fea907fc57a7d3605c6d49e68296"), looks := true }, kinds := [], alts := [], laidByText := true, laidKinds := [.data, .data, .data, .data, .sentinel, .sentinel, .pinned], laidTests := true, laidLooks := .later }
def SchemeGetCardSaid : Prop := Claim7.holds Tryz.pinned (.plain (OpenSpec.ofChange schemeGetSpec)) schemeGetCard

/-- THE TIED CARD OF 'virgationlaw03.SchemeRound'. -/
def schemeRoundCard : Claim7 := { stood := { row := schemeRoundRow, standIns := [], harness := (true, "c860269112dfd2690ddfbcca2989c5b60b44fea907fc57a7d3605c6d49e68296"), looks := true }, kinds := [], alts := [], laidByText := true, laidKinds := [.data, .data, .data, .data, .sentinel, .sentinel, .pinned], laidTests := true, laidLooks := .later }
def SchemeRoundCardSaid : Prop := Claim7.holds Tryz.pinned (.plain (OpenSpec.ofChange schemeRoundSpec)) schemeRoundCard

/-- THE TIED CARD OF 'virgationlaw03.SchemeTexts'. -/
def schemeTextsCard : Claim7 := { stood := { row := schemeTextsRow, standIns := [], harness := (true, "c860269112dfd2690ddfbcca2989c5b60b44fea907fc57a7d3605c6d49e68296"), looks := true }, kinds := [], alts := [], laidByText := true, laidKinds := [.data, .data, .data, .data, .sentinel, .sentinel, .pinned], laidTests := true, laidLooks := .later }
def SchemeTextsCardSaid : Prop := Claim7.holds Tryz.pinned (.plain (OpenSpec.ofChange schemeTextsSpec)) schemeTextsCard

/-- THE TIED CARD OF 'virgationlaw03.SchemeOrder'. -/
def schemeOrderCard : Claim7 := { stood := { row := schemeOrderRow, standIns := [], harness := (true, "c860269112dfd2690ddfbcca2989c5b60b44fea907fc57a7d3605c6d49e68296"), looks := true }, kinds := [], alts := [], laidByText := true, laidKinds := [.data, .data, .data, .data, .sentinel, .sentinel, .pinned], laidTests := true, laidLooks := .later }
def SchemeOrderCardSaid : Prop := Claim7.holds Tryz.pinned (.plain (OpenSpec.ofChange schemeOrderSpec)) schemeOrderCard

/-- THE TIED CARD OF 'virgationlaw03.SchemeSame'. -/
def schemeSameCard : Claim7 := { stood := { row := schemeSameRow, standIns := [], harness := (true, "c860269112dfd2690ddfbcca2989c5b60b44fea907fc57a7d3605c6d49e68296"), looks := true }, kinds := [], alts := [], laidByText := true, laidKinds := [.data, .data, .data, .data, .sentinel, .sentinel, .pinned], laidTests := true, laidLooks := .later }
def SchemeSameCardSaid : Prop := Claim7.holds Tryz.pinned (.plain (OpenSpec.ofChange schemeSameSpec)) schemeSameCard

/-- THE TIED CARD OF 'virgationlaw03.SchemeBodies'. -/
def schemeBodiesCard : Claim7 := { stood := { row := schemeBodiesRow, standIns := [], harness := (true, "c860269112dfd2690ddfbcca2989c5b60b44fea907fc57a7d3605c6d49e68296"), looks := true }, kinds := [], alts := [], laidByText := true, laidKinds := [.data, .data, .data, .data, .sentinel, .sentinel, .pinned], laidTests := true, laidLooks := .later }
def SchemeBodiesCardSaid : Prop := Claim7.holds Tryz.pinned (.plain (OpenSpec.ofChange schemeBodiesSpec)) schemeBodiesCard

/-- THE TIED CARD OF 'virgationlaw03.SchemeReach'. -/
def schemeReachCard : Claim7 := { stood := { row := schemeReachRow, standIns := [], harness := (true, "c860269112dfd2690ddfbcca2989c5b60b44fea907fc57a7d3605c6d49e68296"), looks := true }, kinds := [], alts := [], laidByText := true, laidKinds := [.data, .data, .data, .data, .sentinel, .sentinel, .pinned], laidTests := true, laidLooks := .later }
def SchemeReachCardSaid : Prop := Claim7.holds Tryz.pinned (.plain (OpenSpec.ofChange schemeReachSpec)) schemeReachCard

/-- THE TIED CARD OF 'virgationlaw03.SchemeLess'. -/
def schemeLessCard : Claim7 := { stood := { row := schemeLessRow, standIns := [], harness := (true, "c860269112dfd2690ddfbcca2989c5b60b44fea907fc57a7d3605c6d49e68296"), looks := true }, kinds := [], alts := [], laidByText := true, laidKinds := [.data, .data, .data, .data, .sentinel, .sentinel, .pinned], laidTests := true, laidLooks := .later }
def SchemeLessCardSaid : Prop := Claim7.holds Tryz.pinned (.plain (OpenSpec.ofChange schemeLessSpec)) schemeLessCard

/-- THE TIED CARD OF 'virgationlaw03.SchemeOwn'. -/
def schemeOwnCard : Claim7 := { stood := { row := schemeOwnRow, standIns := [], harness := (true, "c860269112dfd2690ddfbcca2989c5b60b44fea907fc57a7d3605c6d49e68296"), looks := true }, kinds := [], alts := [], laidByText := true, laidKinds := [.data, .data, .data, .data, .sentinel, .sentinel, .pinned], laidTests := true, laidLooks := .later }
def SchemeOwnCardSaid : Prop := Claim7.holds Tryz.pinned (.plain (OpenSpec.ofChange schemeOwnSpec)) schemeOwnCard

/-- THE SECOND FORM's CARD OF 'virgationlaw03.SchemeCheck'. -/
def schemeCheckUptoCard : Claim7 := { stood := { row := schemeCheckUptoRow, standIns := [], harness := (true, "c860269112dfd2690ddfbcca2989c5b60b44fea907fc57a7d3605c6d49e68296"), looks := true }, kinds := [], alts := [], laidByText := true, laidKinds := [.data, .data, .data, .data, .sentinel, .sentinel, .pinned], laidTests := true, laidLooks := .later }
def SchemeCheckUptoCardSaid : Prop := Claim7.holds Tryz.pinned (.plain (OpenSpec.upto schemeCheckSpec)) schemeCheckUptoCard

/-- THE SECOND FORM's CARD OF 'virgationlaw03.SchemePut'. -/
def schemePutUptoCard : Claim7 := { stood := { row := schemePutUptoRow, standIns := [], harness := (true, "c860269112dfd2690ddfbcca2989c5b60b44fea907fc57a7d3605c6d49e68296"), looks := true }, kinds := [], alts := [], laidByText := true, laidKinds := [.data, .data, .data, .data, .sentinel, .sentinel, .pinned], laidTests := true, laidLooks := .later }
def SchemePutUptoCardSaid : Prop := Claim7.holds Tryz.pinned (.plain (OpenSpec.upto schemePutSpec)) schemePutUptoCard

/-- THE SECOND FORM's CARD OF 'virgationlaw03.SchemeGet'. -/
def schemeGetUptoCard : Claim7 := { stood := { row := schemeGetUptoRow, standIns := [], harness := (true, "c860269112dfd2690ddfbcca2989c5b60b44fea907fc57a7d3605c6d49e68296"), looks := true }, kinds := [], alts := [], laidByText := true, laidKinds := [.data, .data, .data, .data, .sentinel, .sentinel, .pinned], laidTests := true, laidLooks := .later }
def SchemeGetUptoCardSaid : Prop := Claim7.holds Tryz.pinned (.plain (OpenSpec.upto schemeGetSpec)) schemeGetUptoCard

/-- THE SECOND FORM's CARD OF 'virgationlaw03.SchemeRound'. -/
def schemeRoundUptoCard : Claim7 := { stood := { row := schemeRoundUptoRow, standIns := [], harness := (true, "c860269112dfd2690ddfbcca2989c5b60b44fea907fc57a7d3605c6d49e68296"), looks := true }, kinds := [], alts := [], laidByText := true, laidKinds := [.data, .data, .data, .data, .sentinel, .sentinel, .pinned], laidTests := true, laidLooks := .later }
def SchemeRoundUptoCardSaid : Prop := Claim7.holds Tryz.pinned (.plain (OpenSpec.upto schemeRoundSpec)) schemeRoundUptoCard

/-- THE SECOND FORM's CARD OF 'virgationlaw03.SchemeTexts'. -/
def schemeTextsUptoCard : Claim7 := { stood := { row := schemeTextsUptoRow, standIns := [], harness := (true, "c860269112dfd2690ddfbcca2989c5b60b44fea907fc57a7d3605c6d49e68296"), looks := true }, kinds := [], alts := [], laidByText := true, laidKinds := [.data, .data, .data, .data, .sentinel, .sentinel, .pinned], laidTests := true, laidLooks := .later }
def SchemeTextsUptoCardSaid : Prop := Claim7.holds Tryz.pinned (.plain (OpenSpec.upto schemeTextsSpec)) schemeTextsUptoCard

/-- THE SECOND FORM's CARD OF 'virgationlaw03.SchemeOrder'. -/
def schemeOrderUptoCard : Claim7 := { stood := { row := schemeOrderUptoRow, standIns := [], harness := (true, "c860269112dfd2690ddfbcca2989c5b60b44fea907fc57a7d3605c6d49e68296"), looks := true }, kinds := [], alts := [], laidByText := true, laidKinds := [.data, .data, .data, .data, .sentinel, .sentinel, .pinned], laidTests := true, laidLooks := .later }
def SchemeOrderUptoCardSaid : Prop := Claim7.holds Tryz.pinned (.plain (OpenSpec.upto schemeOrderSpec)) schemeOrderUptoCard

/-- THE SECOND FORM's CARD OF 'virgationlaw03.SchemeSame'. -/
def schemeSameUptoCard : Claim7 := { stood := { row := schemeSameUptoRow, standIns := [], harness := (true, "c860269112dfd2690ddfbcca2989c5b60b44fea907fc57a7d3605c6d49e68296"), looks := true }, kinds := [], alts := [], laidByText := true, laidKinds := [.data, .data, .data, .data, .sentinel, .sentinel, .pinned], laidTests := true, laidLooks := .later }
def SchemeSameUptoCardSaid : Prop := Claim7.holds Tryz.pinned (.plain (OpenSpec.upto schemeSameSpec)) schemeSameUptoCard

/-- THE SECOND FORM's CARD OF 'virgationlaw03.SchemeBodies'. -/
def schemeBodiesUptoCard : Claim7 := { stood := { row := schemeBodiesUptoRow, standIns := [], harness := (true, "c860269112dfd2690ddfbcca2989c5b60b44fea907fc57a7d3605c6d49e68296"), looks := true }, kinds := [], alts := [], laidByText := true, laidKinds := [.data, .data, .data, .data, .sentinel, .sentinel, .pinned], laidTests := true, laidLooks := .later }
def SchemeBodiesUptoCardSaid : Prop := Claim7.holds Tryz.pinned (.plain (OpenSpec.upto schemeBodiesSpec)) schemeBodiesUptoCard

/-- THE SECOND FORM's CARD OF 'virgationlaw03.SchemeReach'. -/
def schemeReachUptoCard : Claim7 := { stood := { row := schemeReachUptoRow, standIns := [], harness := (true, "c860269112dfd2690ddfbcca2989c5b60b44fea907fc57a7d3605c6d49e68296"), looks := true }, kinds := [], alts := [], laidByText := true, laidKinds := [.data, .data, .data, .data, .sentinel, .sentinel, .pinned], laidTests := true, laidLooks := .later }
def SchemeReachUptoCardSaid : Prop := Claim7.holds Tryz.pinned (.plain (OpenSpec.upto schemeReachSpec)) schemeReachUptoCard

/-- THE SECOND FORM's CARD OF 'virgationlaw03.SchemeLess'. -/
def schemeLessUptoCard : Claim7 := { stood := { row := schemeLessUptoRow, standIns := [], harness := (true, "c860269112dfd2690ddfbcca2989c5b60b44fea907fc57a7d3605c6d49e68296"), looks := true }, kinds := [], alts := [], laidByText := true, laidKinds := [.data, .data, .data, .data, .sentinel, .sentinel, .pinned], laidTests := true, laidLooks := .later }
def SchemeLessUptoCardSaid : Prop := Claim7.holds Tryz.pinned (.plain (OpenSpec.upto schemeLessSpec)) schemeLessUptoCard

/-- THE SECOND FORM's CARD OF 'virgationlaw03.SchemeOwn'. -/
def schemeOwnUptoCard : Claim7 := { stood := { row := schemeOwnUptoRow, standIns := [], harness := (true, "c860269112dfd2690ddfbcca2989c5b60b44fea907fc57a7d3605c6d49e68296"), looks := true }, kinds := [], alts := [], laidByText := true, laidKinds := [.data, .data, .data, .data, .sentinel, .sentinel, .pinned], laidTests := true, laidLooks := .later }
def SchemeOwnUptoCardSaid : Prop := Claim7.holds Tryz.pinned (.plain (OpenSpec.upto schemeOwnSpec)) schemeOwnUptoCard
end Rows
end Go.Proofs.YthflpbgloeimfaaGreatDoor
