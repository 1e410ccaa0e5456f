/-
  DERIVED. GIVEN WITH THE SEED: THE CARDS: each row of YtjomahmkennljaaDoorRows.lean that lists a variable, with what it lists TIED to the program's text (the seventh form; the later family's looks); each row that meets fmt, with fmt's text TOLD by the authors' own Lean function (tested against real Go, not proved from fmt's source: count such statements apart). THE CARD IS WHAT COUNTS. Prove the row's statement (the work); the ties are given (YtjomahmkennljaaDoorTie.lean); close each card by the builder's one call (the guide's Derived/Test/ToyasCard.lean, 'card_holds'). Laid BY PROGRAM, IN A SANDBOX (cutbox-door.mjs). By AI agents, Wed Nov 11 2026. No macro, syntax, notation, axiom, sorry.
-/
import Derived.Test.YtjomahmkennljaaDoorRows
import GoSem.ClaimSeven
namespace Go.Proofs.YtjomahmkennljaaDoor
namespace Rows

/-- THE TIED CARD OF 'laws.FnExactParseVessel'. -/
def fnExactParseVesselCard : Claim7 := { stood := { row := fnExactParseVesselRow, standIns := [], harness := (true, "8ff107e320bc3109326ab6f73fbd0e0ae2c24552a89a1557786529da203959a2"), looks := true }, kinds := [], alts := [], laidByText := true, laidKinds := [.data, .data, .data, .data, .sentinel, .sentinel, .widerDeep, .pinned], laidTests := true, laidLooks := .later }
def FnExactParseVesselCardSaid : Prop := Claim7.holds Tryd.pinned (.plain (OpenSpec.ofChange fnExactParseVesselSpec)) fnExactParseVesselCard

/-- THE SECOND FORM's CARD OF 'laws.FnExactParseVessel'. -/
def fnExactParseVesselUptoCard : Claim7 := { stood := { row := fnExactParseVesselUptoRow, standIns := [], harness := (true, "8ff107e320bc3109326ab6f73fbd0e0ae2c24552a89a1557786529da203959a2"), looks := true }, kinds := [], alts := [], laidByText := true, laidKinds := [.data, .data, .data, .data, .sentinel, .sentinel, .widerDeep, .pinned], laidTests := true, laidLooks := .later }
def FnExactParseVesselUptoCardSaid : Prop := Claim7.holds Tryd.pinned (.plain (OpenSpec.upto fnExactParseVesselSpec)) fnExactParseVesselUptoCard
end Rows
end Go.Proofs.YtjomahmkennljaaDoor
