/-
  DERIVED. GIVEN WITH THE SEED: THE CARDS: each row of YtikdiepcfdimgaaDoorRows.lean that lists a variable, with what it lists TIED to the program's text (the seventh form; the later family's looks); each row that meets fmt, with fmt's text TOLD by the authors' own Lean function (tested against real Go, not proved from fmt's source: count such statements apart). THE CARD IS WHAT COUNTS. Prove the row's statement (the work); the ties are given (YtikdiepcfdimgaaDoorTie.lean); close each card by the builder's one call (the guide's Derived/Test/ToyasCard.lean, 'card_holds'). Laid BY PROGRAM, IN A SANDBOX (cutbox-door.mjs). By AI agents, Wed Nov 11 2026. No macro, syntax, notation, axiom, sorry.
-/
import Derived.Test.YtikdiepcfdimgaaDoorRows
import GoSem.ClaimSeven
namespace Go.Proofs.YtikdiepcfdimgaaDoor
namespace Rows

/-- THE TIED CARD OF 'accountinglaw43.OwnersNil'. -/
def ownersNilCard : Claim7 := { stood := { row := ownersNilRow, standIns := [], harness := (true, "9e551ad7a2d801ce09a97c6e6d18c081508f162615af3225bf3123e8b913dcae"), looks := false }, kinds := [], alts := [], laidByText := true, laidKinds := [.data], laidTests := true, laidLooks := .later }
def OwnersNilCardSaid : Prop := Claim7.holds Tryd.pinned (.plain (OpenSpec.ofChange ownersNilSpec)) ownersNilCard

/-- THE SECOND FORM's CARD OF 'accountinglaw43.OwnersNil'. -/
def ownersNilUptoCard : Claim7 := { stood := { row := ownersNilUptoRow, standIns := [], harness := (true, "9e551ad7a2d801ce09a97c6e6d18c081508f162615af3225bf3123e8b913dcae"), looks := false }, kinds := [], alts := [], laidByText := true, laidKinds := [.data], laidTests := true, laidLooks := .later }
def OwnersNilUptoCardSaid : Prop := Claim7.holds Tryd.pinned (.plain (OpenSpec.upto ownersNilSpec)) ownersNilUptoCard
end Rows
end Go.Proofs.YtikdiepcfdimgaaDoor
