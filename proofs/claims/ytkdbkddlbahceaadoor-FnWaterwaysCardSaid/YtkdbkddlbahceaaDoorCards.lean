/-
  DERIVED. GIVEN WITH THE SEED: THE CARDS: each row of YtkdbkddlbahceaaDoorRows.lean that lists a variable, with what it lists TIED to the program's text (the seventh form; the later family's looks); each row that meets fmt, with fmt's text TOLD by the authors' own Lean function (tested against real Go, not proved from fmt's source: count such statements apart). THE CARD IS WHAT COUNTS. Prove the row's statement (the work); the ties are given (YtkdbkddlbahceaaDoorTie.lean); close each card by the builder's one call (the guide's Derived/Test/ToyasCard.lean, 'card_holds'). Laid BY PROGRAM, IN A SANDBOX (cutbox-door.mjs). By AI agents, Wed Nov 11 2026. No macro, syntax, notation, axiom, sorry.
-/
import Derived.Test.YtkdbkddlbahceaaDoorRows
import GoSem.ClaimSeven
namespace Go.Proofs.YtkdbkddlbahceaaDoor
namespace Rows

/-- THE TIED CARD OF 'laws.FnExactWaterwayText'. -/
def fnExactWaterwayTextCard : Claim7 := { stood := { row := fnExactWaterwayTextRow, standIns := [], harness := (true, "0acba6e2bcc28fdaf58b11196a304ff1e8b6b916e6045ba5476df61fabb338aa"), looks := true }, kinds := [], alts := [], laidByText := true, laidKinds := [.data, .data, .data], laidTests := true, laidLooks := .later }
def FnExactWaterwayTextCardSaid : Prop := Claim7.holds Tryd.pinned (.plain (OpenSpec.ofChange fnExactWaterwayTextSpec)) fnExactWaterwayTextCard

/-- THE TIED CARD OF 'laws.FnExactParseWaterway'. -/
def fnExactParseWaterwayCard : Claim7 := { stood := { row := fnExactParseWaterwayRow, standIns := [], harness := (true, "0acba6e2bcc28fdaf58b11196a304ff1e8b6b916e6045ba5476df61fabb338aa"), looks := true }, kinds := [], alts := [], laidByText := true, laidKinds := [.data, .data, .data, .data, .sentinel, .sentinel, .pinned], laidTests := true, laidLooks := .later }
def FnExactParseWaterwayCardSaid : Prop := Claim7.holds Tryd.pinned (.plain (OpenSpec.ofChange fnExactParseWaterwaySpec)) fnExactParseWaterwayCard

/-- THE TIED CARD OF 'laws.FnWaterways'. -/
def fnWaterwaysCard : Claim7 := { stood := { row := fnWaterwaysRow, standIns := [], harness := (true, "0acba6e2bcc28fdaf58b11196a304ff1e8b6b916e6045ba5476df61fabb338aa"), looks := true }, kinds := [], alts := [], laidByText := true, laidKinds := [.data, .data, .data, .data, .sentinel, .sentinel, .pinned], laidTests := true, laidLooks := .later }
def FnWaterwaysCardSaid : Prop := Claim7.holds Tryd.pinned (.plain (OpenSpec.ofChange fnWaterwaysSpec)) fnWaterwaysCard

/-- THE SECOND FORM's CARD OF 'laws.FnExactWaterwayText'. -/
def fnExactWaterwayTextUptoCard : Claim7 := { stood := { row := fnExactWaterwayTextUptoRow, standIns := [], harness := (true, "0acba6e2bcc28fdaf58b11196a304ff1e8b6b916e6045ba5476df61fabb338aa"), looks := true }, kinds := [], alts := [], laidByText := true, laidKinds := [.data, .data, .data], laidTests := true, laidLooks := .later }
def FnExactWaterwayTextUptoCardSaid : Prop := Claim7.holds Tryd.pinned (.plain (OpenSpec.upto fnExactWaterwayTextSpec)) fnExactWaterwayTextUptoCard

/-- THE SECOND FORM's CARD OF 'laws.FnExactParseWaterway'. -/
def fnExactParseWaterwayUptoCard : Claim7 := { stood := { row := fnExactParseWaterwayUptoRow, standIns := [], harness := (true, "0acba6e2bcc28fdaf58b11196a304ff1e8b6b916e6045ba5476df61fabb338aa"), looks := true }, kinds := [], alts := [], laidByText := true, laidKinds := [.data, .data, .data, .data, .sentinel, .sentinel, .pinned], laidTests := true, laidLooks := .later }
def FnExactParseWaterwayUptoCardSaid : Prop := Claim7.holds Tryd.pinned (.plain (OpenSpec.upto fnExactParseWaterwaySpec)) fnExactParseWaterwayUptoCard

/-- THE SECOND FORM's CARD OF 'laws.FnWaterways'. -/
def fnWaterwaysUptoCard : Claim7 := { stood := { row := fnWaterwaysUptoRow, standIns := [], harness := (true, "0acba6e2bcc28fdaf58b11196a304ff1e8b6b916e6045ba5476df61fabb338aa"), looks := true }, kinds := [], alts := [], laidByText := true, laidKinds := [.data, .data, .data, .data, .sentinel, .sentinel, .pinned], laidTests := true, laidLooks := .later }
def FnWaterwaysUptoCardSaid : Prop := Claim7.holds Tryd.pinned (.plain (OpenSpec.upto fnWaterwaysSpec)) fnWaterwaysUptoCard
end Rows
end Go.Proofs.YtkdbkddlbahceaaDoor
