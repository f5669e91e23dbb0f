/-
  DERIVED. GIVEN WITH THE SEED: THE CARDS: each row of YtikdiepcfdimgaaGreatDoorRows.lean that lists a variable, with what it lists TIED to the program's text (the seventh form; the later family's looks); each row that meets fmt, with fmt's text TOLD by the authors' own Lean function (tested against real Go, not proved from fmt's source: count such statements apart). THE CARD IS WHAT COUNTS. Prove the row's statement (the work); the ties are given (YtikdiepcfdimgaaGreatDoorTie.lean); close each card by the builder's one call (the guide's Derived/Test/ToyasCard.lean, 'card_holds'). Laid BY PROGRAM, IN A SANDBOX (cutbox-door.mjs). By AI agents, Wed Nov 11 2026. No macro, syntax, notation, axiom, sorry.
-/
import Derived.Test.YtikdiepcfdimgaaGreatDoorRows
import GoSem.ClaimSeven
namespace Go.Proofs.YtikdiepcfdimgaaGreatDoor
namespace Rows

/-- THE TIED CARD OF 'accountinglaw43.OwnersNew'. -/
def ownersNewCard : Claim7 := { stood := { row := ownersNewRow, standIns := [], harness := (true, "651bc9b0589eafc918df67f34ad04e6cd321719ec02361b548ca80c65d906c67"), looks := false }, kinds := [], alts := [], laidByText := true, laidKinds := [.data], laidTests := true, laidLooks := .later }
def OwnersNewCardSaid : Prop := Claim7.holds Tryz.pinned (.plain (OpenSpec.ofChange ownersNewSpec)) ownersNewCard

/-- THE TIED CARD OF 'accountinglaw43.OwnersMembers'. -/
def ownersMembersCard : Claim7 := { stood := { row := ownersMembersRow, standIns := [], harness := (true, "651bc9b0589eafc918df67f34ad04e6cd321719ec02361b548ca80c65d906c67"), looks := false }, kinds := [], alts := [], laidByText := true, laidKinds := [.data], laidTests := true, laidLooks := .later }
def OwnersMembersCardSaid : Prop := Claim7.holds Tryz.pinned (.plain (OpenSpec.ofChange ownersMembersSpec)) ownersMembersCard

/-- THE TIED CARD OF 'accountinglaw43.OwnersEffective'. -/
def ownersEffectiveCard : Claim7 := { stood := { row := ownersEffectiveRow, standIns := [], harness := (true, "651bc9b0589eafc918df67f34ad04e6cd321719ec02361b548ca80c65d906c67"), looks := false }, kinds := [], alts := [], laidByText := true, laidKinds := [.data], laidTests := true, laidLooks := .later }
def OwnersEffectiveCardSaid : Prop := Claim7.holds Tryz.pinned (.plain (OpenSpec.ofChange ownersEffectiveSpec)) ownersEffectiveCard

/-- THE TIED CARD OF 'accountinglaw43.OwnersSince'. -/
def ownersSinceCard : Claim7 := { stood := { row := ownersSinceRow, standIns := [], harness := (true, "651bc9b0589eafc918df67f34ad04e6cd321719ec02361b548ca80c65d906c67"), looks := false }, kinds := [], alts := [], laidByText := true, laidKinds := [.data], laidTests := true, laidLooks := .later }
def OwnersSinceCardSaid : Prop := Claim7.holds Tryz.pinned (.plain (OpenSpec.ofChange ownersSinceSpec)) ownersSinceCard

/-- THE TIED CARD OF 'accountinglaw43.OwnersInner'. -/
def ownersInnerCard : Claim7 := { stood := { row := ownersInnerRow, standIns := [], harness := (true, "651bc9b0589eafc918df67f34ad04e6cd321719ec02361b548ca80c65d906c67"), looks := false }, kinds := [], alts := [], laidByText := true, laidKinds := [.data], laidTests := true, laidLooks := .later }
def OwnersInnerCardSaid : Prop := Claim7.holds Tryz.pinned (.plain (OpenSpec.ofChange ownersInnerSpec)) ownersInnerCard

/-- THE TIED CARD OF 'accountinglaw43.OwnersShare'. -/
def ownersShareCard : Claim7 := { stood := { row := ownersShareRow, standIns := [], harness := (true, "651bc9b0589eafc918df67f34ad04e6cd321719ec02361b548ca80c65d906c67"), looks := false }, kinds := [], alts := [], laidByText := true, laidKinds := [.data], laidTests := true, laidLooks := .later }
def OwnersShareCardSaid : Prop := Claim7.holds Tryz.pinned (.plain (OpenSpec.ofChange ownersShareSpec)) ownersShareCard

/-- THE TIED CARD OF 'accountinglaw43.OwnersOrder'. -/
def ownersOrderCard : Claim7 := { stood := { row := ownersOrderRow, standIns := [], harness := (true, "651bc9b0589eafc918df67f34ad04e6cd321719ec02361b548ca80c65d906c67"), looks := false }, kinds := [], alts := [], laidByText := true, laidKinds := [.data], laidTests := true, laidLooks := .later }
def OwnersOrderCardSaid : Prop := Claim7.holds Tryz.pinned (.plain (OpenSpec.ofChange ownersOrderSpec)) ownersOrderCard

/-- THE SECOND FORM's CARD OF 'accountinglaw43.OwnersNew'. -/
def ownersNewUptoCard : Claim7 := { stood := { row := ownersNewUptoRow, standIns := [], harness := (true, "651bc9b0589eafc918df67f34ad04e6cd321719ec02361b548ca80c65d906c67"), looks := false }, kinds := [], alts := [], laidByText := true, laidKinds := [.data], laidTests := true, laidLooks := .later }
def OwnersNewUptoCardSaid : Prop := Claim7.holds Tryz.pinned (.plain (OpenSpec.upto ownersNewSpec)) ownersNewUptoCard

/-- THE SECOND FORM's CARD OF 'accountinglaw43.OwnersMembers'. -/
def ownersMembersUptoCard : Claim7 := { stood := { row := ownersMembersUptoRow, standIns := [], harness := (true, "651bc9b0589eafc918df67f34ad04e6cd321719ec02361b548ca80c65d906c67"), looks := false }, kinds := [], alts := [], laidByText := true, laidKinds := [.data], laidTests := true, laidLooks := .later }
def OwnersMembersUptoCardSaid : Prop := Claim7.holds Tryz.pinned (.plain (OpenSpec.upto ownersMembersSpec)) ownersMembersUptoCard

/-- THE SECOND FORM's CARD OF 'accountinglaw43.OwnersEffective'. -/
def ownersEffectiveUptoCard : Claim7 := { stood := { row := ownersEffectiveUptoRow, standIns := [], harness := (true, "651bc9b0589eafc918df67f34ad04e6cd321719ec02361b548ca80c65d906c67"), looks := false }, kinds := [], alts := [], laidByText := true, laidKinds := [.data], laidTests := true, laidLooks := .later }
def OwnersEffectiveUptoCardSaid : Prop := Claim7.holds Tryz.pinned (.plain (OpenSpec.upto ownersEffectiveSpec)) ownersEffectiveUptoCard

/-- THE SECOND FORM's CARD OF 'accountinglaw43.OwnersSince'. -/
def ownersSinceUptoCard : Claim7 := { stood := { row := ownersSinceUptoRow, standIns := [], harness := (true, "651bc9b0589eafc918df67f34ad04e6cd321719ec02361b548ca80c65d906c67"), looks := false }, kinds := [], alts := [], laidByText := true, laidKinds := [.data], laidTests := true, laidLooks := .later }
def OwnersSinceUptoCardSaid : Prop := Claim7.holds Tryz.pinned (.plain (OpenSpec.upto ownersSinceSpec)) ownersSinceUptoCard

/-- THE SECOND FORM's CARD OF 'accountinglaw43.OwnersInner'. -/
def ownersInnerUptoCard : Claim7 := { stood := { row := ownersInnerUptoRow, standIns := [], harness := (true, "651bc9b0589eafc918df67f34ad04e6cd321719ec02361b548ca80c65d906c67"), looks := false }, kinds := [], alts := [], laidByText := true, laidKinds := [.data], laidTests := true, laidLooks := .later }
def OwnersInnerUptoCardSaid : Prop := Claim7.holds Tryz.pinned (.plain (OpenSpec.upto ownersInnerSpec)) ownersInnerUptoCard

/-- THE SECOND FORM's CARD OF 'accountinglaw43.OwnersShare'. -/
def ownersShareUptoCard : Claim7 := { stood := { row := ownersShareUptoRow, standIns := [], harness := (true, "651bc9b0589eafc918df67f34ad04e6cd321719ec02361b548ca80c65d906c67"), looks := false }, kinds := [], alts := [], laidByText := true, laidKinds := [.data], laidTests := true, laidLooks := .later }
def OwnersShareUptoCardSaid : Prop := Claim7.holds Tryz.pinned (.plain (OpenSpec.upto ownersShareSpec)) ownersShareUptoCard

/-- THE SECOND FORM's CARD OF 'accountinglaw43.OwnersOrder'. -/
def ownersOrderUptoCard : Claim7 := { stood := { row := ownersOrderUptoRow, standIns := [], harness := (true, "651bc9b0589eafc918df67f34ad04e6cd321719ec02361b548ca80c65d906c67"), looks := false }, kinds := [], alts := [], laidByText := true, laidKinds := [.data], laidTests := true, laidLooks := .later }
def OwnersOrderUptoCardSaid : Prop := Claim7.holds Tryz.pinned (.plain (OpenSpec.upto ownersOrderSpec)) ownersOrderUptoCard
end Rows
end Go.Proofs.YtikdiepcfdimgaaGreatDoor
