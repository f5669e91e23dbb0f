/-
  DERIVED. GIVEN WITH THE SEED: THE CARDS: each row of YtncbfpigojeekaaDoorRows.lean that lists a variable, with what it lists TIED to the program's text (the seventh form; the later family's looks); each row that meets fmt, with fmt's text TOLD by the authors' own Lean function (tested against real Go, not proved from fmt's source: count such statements apart). THE CARD IS WHAT COUNTS. Prove the row's statement (the work); the ties are given (YtncbfpigojeekaaDoorTie.lean); close each card by the builder's one call (the guide's Derived/Test/ToyasCard.lean, 'card_holds'). Laid BY PROGRAM, IN A SANDBOX (cutbox-door.mjs). By AI agents, Wed Nov 11 2026. No macro, syntax, notation, axiom, sorry.
-/
import Derived.Test.YtncbfpigojeekaaDoorRows
import GoSem.ClaimSeven
namespace Go.Proofs.YtncbfpigojeekaaDoor
namespace Rows

/-- THE TIED CARD OF 'accountinglaw11.FxNewReference'. -/
def fxNewReferenceCard : Claim7 := { stood := { row := fxNewReferenceRow, standIns := [], harness := (true, "5a4c3583d6430004b187a11d0e81921c8f5eecbf5f7e80452a772bd53f6cd375"), looks := false }, kinds := [], alts := [], laidByText := true, laidKinds := [.data], laidTests := true, laidLooks := .later }
def FxNewReferenceCardSaid : Prop := Claim7.holds Tryd.pinned (.plain (OpenSpec.ofChange fxNewReferenceSpec)) fxNewReferenceCard

/-- THE TIED CARD OF 'accountinglaw11.FxAnswers'. -/
def fxAnswersCard : Claim7 := { stood := { row := fxAnswersRow, standIns := [], harness := (true, "5a4c3583d6430004b187a11d0e81921c8f5eecbf5f7e80452a772bd53f6cd375"), looks := false }, kinds := [], alts := [], laidByText := true, laidKinds := [.data], laidTests := true, laidLooks := .later }
def FxAnswersCardSaid : Prop := Claim7.holds Tryd.pinned (.plain (OpenSpec.ofChange fxAnswersSpec)) fxAnswersCard

/-- THE TIED CARD OF 'accountinglaw11.FxLatest'. -/
def fxLatestCard : Claim7 := { stood := { row := fxLatestRow, standIns := [], harness := (true, "5a4c3583d6430004b187a11d0e81921c8f5eecbf5f7e80452a772bd53f6cd375"), looks := false }, kinds := [], alts := [], laidByText := true, laidKinds := [.data], laidTests := true, laidLooks := .later }
def FxLatestCardSaid : Prop := Claim7.holds Tryd.pinned (.plain (OpenSpec.ofChange fxLatestSpec)) fxLatestCard

/-- THE TIED CARD OF 'accountinglaw11.FxOrder'. -/
def fxOrderCard : Claim7 := { stood := { row := fxOrderRow, standIns := [], harness := (true, "5a4c3583d6430004b187a11d0e81921c8f5eecbf5f7e80452a772bd53f6cd375"), looks := false }, kinds := [], alts := [], laidByText := true, laidKinds := [.data], laidTests := true, laidLooks := .later }
def FxOrderCardSaid : Prop := Claim7.holds Tryd.pinned (.plain (OpenSpec.ofChange fxOrderSpec)) fxOrderCard

/-- THE TIED CARD OF 'accountinglaw11.FxInverse'. -/
def fxInverseCard : Claim7 := { stood := { row := fxInverseRow, standIns := [], harness := (true, "5a4c3583d6430004b187a11d0e81921c8f5eecbf5f7e80452a772bd53f6cd375"), looks := false }, kinds := [], alts := [], laidByText := true, laidKinds := [.data], laidTests := true, laidLooks := .later }
def FxInverseCardSaid : Prop := Claim7.holds Tryd.pinned (.plain (OpenSpec.ofChange fxInverseSpec)) fxInverseCard

/-- THE TIED CARD OF 'accountinglaw11.FxOwn'. -/
def fxOwnCard : Claim7 := { stood := { row := fxOwnRow, standIns := [], harness := (true, "5a4c3583d6430004b187a11d0e81921c8f5eecbf5f7e80452a772bd53f6cd375"), looks := false }, kinds := [], alts := [], laidByText := true, laidKinds := [.data], laidTests := true, laidLooks := .later }
def FxOwnCardSaid : Prop := Claim7.holds Tryd.pinned (.plain (OpenSpec.ofChange fxOwnSpec)) fxOwnCard

/-- THE TIED CARD OF 'accountinglaw11.FxRounds'. -/
def fxRoundsCard : Claim7 := { stood := { row := fxRoundsRow, standIns := [], harness := (true, "5a4c3583d6430004b187a11d0e81921c8f5eecbf5f7e80452a772bd53f6cd375"), looks := false }, kinds := [], alts := [], laidByText := true, laidKinds := [.data], laidTests := true, laidLooks := .later }
def FxRoundsCardSaid : Prop := Claim7.holds Tryd.pinned (.plain (OpenSpec.ofChange fxRoundsSpec)) fxRoundsCard

/-- THE SECOND FORM's CARD OF 'accountinglaw11.FxNewReference'. -/
def fxNewReferenceUptoCard : Claim7 := { stood := { row := fxNewReferenceUptoRow, standIns := [], harness := (true, "5a4c3583d6430004b187a11d0e81921c8f5eecbf5f7e80452a772bd53f6cd375"), looks := false }, kinds := [], alts := [], laidByText := true, laidKinds := [.data], laidTests := true, laidLooks := .later }
def FxNewReferenceUptoCardSaid : Prop := Claim7.holds Tryd.pinned (.plain (OpenSpec.upto fxNewReferenceSpec)) fxNewReferenceUptoCard

/-- THE SECOND FORM's CARD OF 'accountinglaw11.FxAnswers'. -/
def fxAnswersUptoCard : Claim7 := { stood := { row := fxAnswersUptoRow, standIns := [], harness := (true, "5a4c3583d6430004b187a11d0e81921c8f5eecbf5f7e80452a772bd53f6cd375"), looks := false }, kinds := [], alts := [], laidByText := true, laidKinds := [.data], laidTests := true, laidLooks := .later }
def FxAnswersUptoCardSaid : Prop := Claim7.holds Tryd.pinned (.plain (OpenSpec.upto fxAnswersSpec)) fxAnswersUptoCard

/-- THE SECOND FORM's CARD OF 'accountinglaw11.FxLatest'. -/
def fxLatestUptoCard : Claim7 := { stood := { row := fxLatestUptoRow, standIns := [], harness := (true, "5a4c3583d6430004b187a11d0e81921c8f5eecbf5f7e80452a772bd53f6cd375"), looks := false }, kinds := [], alts := [], laidByText := true, laidKinds := [.data], laidTests := true, laidLooks := .later }
def FxLatestUptoCardSaid : Prop := Claim7.holds Tryd.pinned (.plain (OpenSpec.upto fxLatestSpec)) fxLatestUptoCard

/-- THE SECOND FORM's CARD OF 'accountinglaw11.FxOrder'. -/
def fxOrderUptoCard : Claim7 := { stood := { row := fxOrderUptoRow, standIns := [], harness := (true, "5a4c3583d6430004b187a11d0e81921c8f5eecbf5f7e80452a772bd53f6cd375"), looks := false }, kinds := [], alts := [], laidByText := true, laidKinds := [.data], laidTests := true, laidLooks := .later }
def FxOrderUptoCardSaid : Prop := Claim7.holds Tryd.pinned (.plain (OpenSpec.upto fxOrderSpec)) fxOrderUptoCard

/-- THE SECOND FORM's CARD OF 'accountinglaw11.FxInverse'. -/
def fxInverseUptoCard : Claim7 := { stood := { row := fxInverseUptoRow, standIns := [], harness := (true, "5a4c3583d6430004b187a11d0e81921c8f5eecbf5f7e80452a772bd53f6cd375"), looks := false }, kinds := [], alts := [], laidByText := true, laidKinds := [.data], laidTests := true, laidLooks := .later }
def FxInverseUptoCardSaid : Prop := Claim7.holds Tryd.pinned (.plain (OpenSpec.upto fxInverseSpec)) fxInverseUptoCard

/-- THE SECOND FORM's CARD OF 'accountinglaw11.FxOwn'. -/
def fxOwnUptoCard : Claim7 := { stood := { row := fxOwnUptoRow, standIns := [], harness := (true, "5a4c3583d6430004b187a11d0e81921c8f5eecbf5f7e80452a772bd53f6cd375"), looks := false }, kinds := [], alts := [], laidByText := true, laidKinds := [.data], laidTests := true, laidLooks := .later }
def FxOwnUptoCardSaid : Prop := Claim7.holds Tryd.pinned (.plain (OpenSpec.upto fxOwnSpec)) fxOwnUptoCard

/-- THE SECOND FORM's CARD OF 'accountinglaw11.FxRounds'. -/
def fxRoundsUptoCard : Claim7 := { stood := { row := fxRoundsUptoRow, standIns := [], harness := (true, "5a4c3583d6430004b187a11d0e81921c8f5eecbf5f7e80452a772bd53f6cd375"), looks := false }, kinds := [], alts := [], laidByText := true, laidKinds := [.data], laidTests := true, laidLooks := .later }
def FxRoundsUptoCardSaid : Prop := Claim7.holds Tryd.pinned (.plain (OpenSpec.upto fxRoundsSpec)) fxRoundsUptoCard
end Rows
end Go.Proofs.YtncbfpigojeekaaDoor
