/-
  DERIVED. GIVEN WITH THE SEED: THE CARDS: each row of YtdjkmpkgkglidaaDoorRows.lean that lists a variable, with what it lists TIED to the program's text (the seventh form; the later family's looks); each row that meets fmt, with fmt's text TOLD by the authors' own Lean function (tested against real Go, not proved from fmt's source: count such statements apart). THE CARD IS WHAT COUNTS. Prove the row's statement (the work); the ties are given (YtdjkmpkgkglidaaDoorTie.lean); close each card by the builder's one call (the guide's Derived/Test/ToyasCard.lean, 'card_holds'). Laid BY PROGRAM, IN A SANDBOX (cutbox-door.mjs). By AI agents, Wed Nov 11 2026. No macro, syntax, notation, axiom, sorry.
-/
import Derived.Test.YtdjkmpkgkglidaaDoorRows
import GoSem.ClaimSeven
namespace Go.Proofs.YtdjkmpkgkglidaaDoor
namespace Rows

/-- THE TIED CARD OF 'laws.FnExactShelfText'. -/
def fnExactShelfTextCard : Claim7 := { stood := { row := fnExactShelfTextRow, standIns := [], harness := (true, "b2a2fa20786f232cbde08f7c3bd2c5645b4b9f3ed6009c9e9361c550371f8658"), looks := true }, kinds := [], alts := [], laidByText := true, laidKinds := [.data, .data, .data], laidTests := true, laidLooks := .later }
def FnExactShelfTextCardSaid : Prop := Claim7.holds Tryd.pinned (.plain (OpenSpec.ofChange fnExactShelfTextSpec)) fnExactShelfTextCard

/-- THE TIED CARD OF 'laws.FnExactParseShelf'. -/
def fnExactParseShelfCard : Claim7 := { stood := { row := fnExactParseShelfRow, standIns := [], harness := (true, "b2a2fa20786f232cbde08f7c3bd2c5645b4b9f3ed6009c9e9361c550371f8658"), looks := true }, kinds := [], alts := [], laidByText := true, laidKinds := [.data, .data, .data, .data, .sentinel, .sentinel, .pinned], laidTests := true, laidLooks := .later }
def FnExactParseShelfCardSaid : Prop := Claim7.holds Tryd.pinned (.plain (OpenSpec.ofChange fnExactParseShelfSpec)) fnExactParseShelfCard

/-- THE SECOND FORM's CARD OF 'laws.FnExactShelfText'. -/
def fnExactShelfTextUptoCard : Claim7 := { stood := { row := fnExactShelfTextUptoRow, standIns := [], harness := (true, "b2a2fa20786f232cbde08f7c3bd2c5645b4b9f3ed6009c9e9361c550371f8658"), looks := true }, kinds := [], alts := [], laidByText := true, laidKinds := [.data, .data, .data], laidTests := true, laidLooks := .later }
def FnExactShelfTextUptoCardSaid : Prop := Claim7.holds Tryd.pinned (.plain (OpenSpec.upto fnExactShelfTextSpec)) fnExactShelfTextUptoCard

/-- THE SECOND FORM's CARD OF 'laws.FnExactParseShelf'. -/
def fnExactParseShelfUptoCard : Claim7 := { stood := { row := fnExactParseShelfUptoRow, standIns := [], harness := (true, "b2a2fa20786f232cbde08f7c3bd2c5645b4b9f3ed6009c9e9361c550371f8658"), looks := true }, kinds := [], alts := [], laidByText := true, laidKinds := [.data, .data, .data, .data, .sentinel, .sentinel, .pinned], laidTests := true, laidLooks := .later }
def FnExactParseShelfUptoCardSaid : Prop := Claim7.holds Tryd.pinned (.plain (OpenSpec.upto fnExactParseShelfSpec)) fnExactParseShelfUptoCard
end Rows
end Go.Proofs.YtdjkmpkgkglidaaDoor
