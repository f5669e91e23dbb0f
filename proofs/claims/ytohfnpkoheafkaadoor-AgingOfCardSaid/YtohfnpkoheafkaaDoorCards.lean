/-
  DERIVED. GIVEN WITH THE SEED: THE CARDS: each row of YtohfnpkoheafkaaDoorRows.lean that lists a variable, with what it lists TIED to the program's text (the seventh form; the later family's looks); each row that meets fmt, with fmt's text TOLD by the authors' own Lean function (tested against real Go, not proved from fmt's source: count such statements apart). THE CARD IS WHAT COUNTS. Prove the row's statement (the work); the ties are given (YtohfnpkoheafkaaDoorTie.lean); close each card by the builder's one call (the guide's Derived/Test/ToyasCard.lean, 'card_holds'). Laid BY PROGRAM, IN A SANDBOX (cutbox-door.mjs). By AI agents, Wed Nov 11 2026. No macro, syntax, notation, axiom, sorry.
-/
import Derived.Test.YtohfnpkoheafkaaDoorRows
import GoSem.ClaimSeven
namespace Go.Proofs.YtohfnpkoheafkaaDoor
namespace Rows

/-- THE TIED CARD OF 'accountinglaw27.AgingBucket'. -/
def agingBucketCard : Claim7 := { stood := { row := agingBucketRow, standIns := [], harness := (true, "837d1bd2a97d6da74a7b39f8182925f27200204b772fe0468b178c2b22d8d2fe"), looks := false }, kinds := [], alts := [], laidByText := true, laidKinds := [.data], laidTests := true, laidLooks := .later }
def AgingBucketCardSaid : Prop := Claim7.holds Tryd.pinned (.plain (OpenSpec.ofChange agingBucketSpec)) agingBucketCard

/-- THE TIED CARD OF 'accountinglaw27.AgingOf'. -/
def agingOfCard : Claim7 := { stood := { row := agingOfRow, standIns := [], harness := (true, "837d1bd2a97d6da74a7b39f8182925f27200204b772fe0468b178c2b22d8d2fe"), looks := false }, kinds := [], alts := [], laidByText := true, laidKinds := [.data], laidTests := true, laidLooks := .later }
def AgingOfCardSaid : Prop := Claim7.holds Tryd.pinned (.plain (OpenSpec.ofChange agingOfSpec)) agingOfCard

/-- THE TIED CARD OF 'accountinglaw27.AgingSums'. -/
def agingSumsCard : Claim7 := { stood := { row := agingSumsRow, standIns := [], harness := (true, "837d1bd2a97d6da74a7b39f8182925f27200204b772fe0468b178c2b22d8d2fe"), looks := false }, kinds := [], alts := [], laidByText := true, laidKinds := [.data], laidTests := true, laidLooks := .later }
def AgingSumsCardSaid : Prop := Claim7.holds Tryd.pinned (.plain (OpenSpec.ofChange agingSumsSpec)) agingSumsCard

/-- THE TIED CARD OF 'accountinglaw27.AgingOrder'. -/
def agingOrderCard : Claim7 := { stood := { row := agingOrderRow, standIns := [], harness := (true, "837d1bd2a97d6da74a7b39f8182925f27200204b772fe0468b178c2b22d8d2fe"), looks := false }, kinds := [], alts := [], laidByText := true, laidKinds := [.data], laidTests := true, laidLooks := .later }
def AgingOrderCardSaid : Prop := Claim7.holds Tryd.pinned (.plain (OpenSpec.ofChange agingOrderSpec)) agingOrderCard

/-- THE TIED CARD OF 'accountinglaw27.AgingLimit'. -/
def agingLimitCard : Claim7 := { stood := { row := agingLimitRow, standIns := [], harness := (true, "837d1bd2a97d6da74a7b39f8182925f27200204b772fe0468b178c2b22d8d2fe"), looks := false }, kinds := [], alts := [], laidByText := true, laidKinds := [.data], laidTests := true, laidLooks := .later }
def AgingLimitCardSaid : Prop := Claim7.holds Tryd.pinned (.plain (OpenSpec.ofChange agingLimitSpec)) agingLimitCard

/-- THE SECOND FORM's CARD OF 'accountinglaw27.AgingBucket'. -/
def agingBucketUptoCard : Claim7 := { stood := { row := agingBucketUptoRow, standIns := [], harness := (true, "837d1bd2a97d6da74a7b39f8182925f27200204b772fe0468b178c2b22d8d2fe"), looks := false }, kinds := [], alts := [], laidByText := true, laidKinds := [.data], laidTests := true, laidLooks := .later }
def AgingBucketUptoCardSaid : Prop := Claim7.holds Tryd.pinned (.plain (OpenSpec.upto agingBucketSpec)) agingBucketUptoCard

/-- THE SECOND FORM's CARD OF 'accountinglaw27.AgingOf'. -/
def agingOfUptoCard : Claim7 := { stood := { row := agingOfUptoRow, standIns := [], harness := (true, "837d1bd2a97d6da74a7b39f8182925f27200204b772fe0468b178c2b22d8d2fe"), looks := false }, kinds := [], alts := [], laidByText := true, laidKinds := [.data], laidTests := true, laidLooks := .later }
def AgingOfUptoCardSaid : Prop := Claim7.holds Tryd.pinned (.plain (OpenSpec.upto agingOfSpec)) agingOfUptoCard

/-- THE SECOND FORM's CARD OF 'accountinglaw27.AgingSums'. -/
def agingSumsUptoCard : Claim7 := { stood := { row := agingSumsUptoRow, standIns := [], harness := (true, "837d1bd2a97d6da74a7b39f8182925f27200204b772fe0468b178c2b22d8d2fe"), looks := false }, kinds := [], alts := [], laidByText := true, laidKinds := [.data], laidTests := true, laidLooks := .later }
def AgingSumsUptoCardSaid : Prop := Claim7.holds Tryd.pinned (.plain (OpenSpec.upto agingSumsSpec)) agingSumsUptoCard

/-- THE SECOND FORM's CARD OF 'accountinglaw27.AgingOrder'. -/
def agingOrderUptoCard : Claim7 := { stood := { row := agingOrderUptoRow, standIns := [], harness := (true, "837d1bd2a97d6da74a7b39f8182925f27200204b772fe0468b178c2b22d8d2fe"), looks := false }, kinds := [], alts := [], laidByText := true, laidKinds := [.data], laidTests := true, laidLooks := .later }
def AgingOrderUptoCardSaid : Prop := Claim7.holds Tryd.pinned (.plain (OpenSpec.upto agingOrderSpec)) agingOrderUptoCard

/-- THE SECOND FORM's CARD OF 'accountinglaw27.AgingLimit'. -/
def agingLimitUptoCard : Claim7 := { stood := { row := agingLimitUptoRow, standIns := [], harness := (true, "837d1bd2a97d6da74a7b39f8182925f27200204b772fe0468b178c2b22d8d2fe"), looks := false }, kinds := [], alts := [], laidByText := true, laidKinds := [.data], laidTests := true, laidLooks := .later }
def AgingLimitUptoCardSaid : Prop := Claim7.holds Tryd.pinned (.plain (OpenSpec.upto agingLimitSpec)) agingLimitUptoCard
end Rows
end Go.Proofs.YtohfnpkoheafkaaDoor
