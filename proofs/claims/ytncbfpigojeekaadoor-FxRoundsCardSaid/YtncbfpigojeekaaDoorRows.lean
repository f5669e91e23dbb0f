/-
  NARROWER THAN 'FOR EVERY INPUT', by the rows' own cells (each row's printed sentence says how): FxNewReference: laid · FxAnswers: laid · FxLatest: laid · FxOrder: laid · FxInverse: laid · FxOwn: laid · FxRounds: laid.
  DERIVED. THE GIVEN ROWS OF THIS SEAT. 7 by the template 'for every input the law returns true; each argument reads behind the call as it read before'; 0 by the template 'total and deterministic' (their statements: YtncbfpigojeekaaDoorTotals.lean).
  GIVEN WITH THE SEED: the statements are not yours to turn. If you find one false, say at which input.
  Laid BY PROGRAM, IN A SANDBOX (cutbox-rows.mjs): the forced cells as the released guide's own fill.sh prints them over the translation bb74c151bd31eec4… (all of the seat's roots in one cut). By AI agents, Wed Nov 11 2026. No macro, syntax, notation, axiom, sorry.
-/
import Derived.Test.YtncbfpigojeekaaDoorChecked
import GoSem.Claim
import GoSem.ClaimJoined
import GoSem.ClaimMapViews
import Derived.JoinedTies
import Derived.KernelRfl
namespace Go.Proofs.YtncbfpigojeekaaDoor
/- THE CELL 'sum', in the pinned program and in every row, IS THE sha256 OF THE DUMP (.gsa) THAT YtncbfpigojeekaaDoorProg.lean LOADS. Nothing in Lean hashes anything: it is a label: what it is worth is what the hold of that sum in a sandbox is worth. -/
noncomputable def Tryd.pinned : Pinned := { name := "ytncbfpigojeekaadoor", sum := "bb74c151bd31eec4c846a9006e50184f15238fa80de2fdfa83109ccf1ab7e917", checked := Tryd.checked }
namespace Rows
def none {H : Type} : Left H := { results := [], args := [] }

/- WHAT THE LISTED PACKAGE-LEVEL VARIABLES READ AS WHEN THE CALL BEGINS. Each datum BY PROGRAM (the guide's laid-datum.mjs) off the statement by which the dump's own 'gosem.cut.vars' lays the variable. In a bare row this is a premise. The card (YtncbfpigojeekaaDoorCards.lean) ties it to the program's text. -/
def laid_accounting_days_lengths {H : Type} : DataW H := .agg [.lit (.int .i64 31), .lit (.int .i64 28), .lit (.int .i64 31), .lit (.int .i64 30), .lit (.int .i64 31), .lit (.int .i64 30), .lit (.int .i64 31), .lit (.int .i64 31), .lit (.int .i64 30), .lit (.int .i64 31), .lit (.int .i64 30), .lit (.int .i64 31)]

/-- 'accountinglaw11.FxNewReference': WHATEVER THE INPUT: true; the input reads as it did. -/
def fxNewReferenceSpec : ChangeSpec := { name := "fxNewReference", fn := fun _ => fun
  | [d1, d2] => { results := [.lit (.bool true)], args := [d1, d2] }
  | _ => none }
def fxNewReferenceRow : OpenClaim := { program := "ytncbfpigojeekaadoor", sum := "bb74c151bd31eec4c846a9006e50184f15238fa80de2fdfa83109ccf1ab7e917", func := "accounting/accountinglaw11.FxNewReference", spec := "fxNewReference", inPlace := ["slices.overlaps[accounting/api.Rate]"], unfollowed := true, recurses := true, named := ["accounting/days.lengths"], plainKeys := false, apart := false, laid := [("accounting/days.lengths", laid_accounting_days_lengths)] }
def FxNewReferenceSaid : Prop := fxNewReferenceRow.holds Tryd.pinned (OpenSpec.ofChange fxNewReferenceSpec)

/-- ITS FALSE NEIGHBOUR: 'it returns false'. Refute it at one input. -/
def fxNewReferenceWrong : ChangeSpec := { name := "fxNewReference", fn := fun _ => fun
  | [d1, d2] => { results := [.lit (.bool false)], args := [d1, d2] }
  | _ => none }
def FxNewReferenceWrongFalsely : Prop := fxNewReferenceRow.holds Tryd.pinned (OpenSpec.ofChange fxNewReferenceWrong)

/-- 'accountinglaw11.FxAnswers': WHATEVER THE INPUT: true; the input reads as it did. -/
def fxAnswersSpec : ChangeSpec := { name := "fxAnswers", fn := fun _ => fun
  | [d] => { results := [.lit (.bool true)], args := [d] }
  | _ => none }
def fxAnswersRow : OpenClaim := { program := "ytncbfpigojeekaadoor", sum := "bb74c151bd31eec4c846a9006e50184f15238fa80de2fdfa83109ccf1ab7e917", func := "accounting/accountinglaw11.FxAnswers", spec := "fxAnswers", inPlace := ["slices.overlaps[accounting/api.Rate]"], unfollowed := true, recurses := true, named := ["accounting/days.lengths"], plainKeys := false, apart := false, laid := [("accounting/days.lengths", laid_accounting_days_lengths)] }
def FxAnswersSaid : Prop := fxAnswersRow.holds Tryd.pinned (OpenSpec.ofChange fxAnswersSpec)

/-- ITS FALSE NEIGHBOUR: 'it returns false'. Refute it at one input. -/
def fxAnswersWrong : ChangeSpec := { name := "fxAnswers", fn := fun _ => fun
  | [d] => { results := [.lit (.bool false)], args := [d] }
  | _ => none }
def FxAnswersWrongFalsely : Prop := fxAnswersRow.holds Tryd.pinned (OpenSpec.ofChange fxAnswersWrong)

/-- 'accountinglaw11.FxLatest': WHATEVER THE INPUT: true; the input reads as it did. -/
def fxLatestSpec : ChangeSpec := { name := "fxLatest", fn := fun _ => fun
  | [d] => { results := [.lit (.bool true)], args := [d] }
  | _ => none }
def fxLatestRow : OpenClaim := { program := "ytncbfpigojeekaadoor", sum := "bb74c151bd31eec4c846a9006e50184f15238fa80de2fdfa83109ccf1ab7e917", func := "accounting/accountinglaw11.FxLatest", spec := "fxLatest", inPlace := ["slices.overlaps[accounting/api.Rate]"], unfollowed := true, recurses := true, named := ["accounting/days.lengths"], plainKeys := false, apart := false, laid := [("accounting/days.lengths", laid_accounting_days_lengths)] }
def FxLatestSaid : Prop := fxLatestRow.holds Tryd.pinned (OpenSpec.ofChange fxLatestSpec)

/-- ITS FALSE NEIGHBOUR: 'it returns false'. Refute it at one input. -/
def fxLatestWrong : ChangeSpec := { name := "fxLatest", fn := fun _ => fun
  | [d] => { results := [.lit (.bool false)], args := [d] }
  | _ => none }
def FxLatestWrongFalsely : Prop := fxLatestRow.holds Tryd.pinned (OpenSpec.ofChange fxLatestWrong)

/-- 'accountinglaw11.FxOrder': WHATEVER THE INPUT: true; the input reads as it did. -/
def fxOrderSpec : ChangeSpec := { name := "fxOrder", fn := fun _ => fun
  | [d] => { results := [.lit (.bool true)], args := [d] }
  | _ => none }
def fxOrderRow : OpenClaim := { program := "ytncbfpigojeekaadoor", sum := "bb74c151bd31eec4c846a9006e50184f15238fa80de2fdfa83109ccf1ab7e917", func := "accounting/accountinglaw11.FxOrder", spec := "fxOrder", inPlace := ["slices.overlaps[accounting/api.Rate]"], unfollowed := true, recurses := true, named := ["accounting/days.lengths"], plainKeys := false, apart := false, laid := [("accounting/days.lengths", laid_accounting_days_lengths)] }
def FxOrderSaid : Prop := fxOrderRow.holds Tryd.pinned (OpenSpec.ofChange fxOrderSpec)

/-- ITS FALSE NEIGHBOUR: 'it returns false'. Refute it at one input. -/
def fxOrderWrong : ChangeSpec := { name := "fxOrder", fn := fun _ => fun
  | [d] => { results := [.lit (.bool false)], args := [d] }
  | _ => none }
def FxOrderWrongFalsely : Prop := fxOrderRow.holds Tryd.pinned (OpenSpec.ofChange fxOrderWrong)

/-- 'accountinglaw11.FxInverse': WHATEVER THE INPUT: true; the input reads as it did. -/
def fxInverseSpec : ChangeSpec := { name := "fxInverse", fn := fun _ => fun
  | [d] => { results := [.lit (.bool true)], args := [d] }
  | _ => none }
def fxInverseRow : OpenClaim := { program := "ytncbfpigojeekaadoor", sum := "bb74c151bd31eec4c846a9006e50184f15238fa80de2fdfa83109ccf1ab7e917", func := "accounting/accountinglaw11.FxInverse", spec := "fxInverse", inPlace := ["slices.overlaps[accounting/api.Rate]"], unfollowed := true, recurses := true, named := ["accounting/days.lengths"], plainKeys := false, apart := false, laid := [("accounting/days.lengths", laid_accounting_days_lengths)] }
def FxInverseSaid : Prop := fxInverseRow.holds Tryd.pinned (OpenSpec.ofChange fxInverseSpec)

/-- ITS FALSE NEIGHBOUR: 'it returns false'. Refute it at one input. -/
def fxInverseWrong : ChangeSpec := { name := "fxInverse", fn := fun _ => fun
  | [d] => { results := [.lit (.bool false)], args := [d] }
  | _ => none }
def FxInverseWrongFalsely : Prop := fxInverseRow.holds Tryd.pinned (OpenSpec.ofChange fxInverseWrong)

/-- 'accountinglaw11.FxOwn': WHATEVER THE INPUT: true; the input reads as it did. -/
def fxOwnSpec : ChangeSpec := { name := "fxOwn", fn := fun _ => fun
  | [d] => { results := [.lit (.bool true)], args := [d] }
  | _ => none }
def fxOwnRow : OpenClaim := { program := "ytncbfpigojeekaadoor", sum := "bb74c151bd31eec4c846a9006e50184f15238fa80de2fdfa83109ccf1ab7e917", func := "accounting/accountinglaw11.FxOwn", spec := "fxOwn", inPlace := ["slices.overlaps[accounting/api.Rate]"], unfollowed := true, recurses := true, named := ["accounting/days.lengths"], plainKeys := false, apart := false, laid := [("accounting/days.lengths", laid_accounting_days_lengths)] }
def FxOwnSaid : Prop := fxOwnRow.holds Tryd.pinned (OpenSpec.ofChange fxOwnSpec)

/-- ITS FALSE NEIGHBOUR: 'it returns false'. Refute it at one input. -/
def fxOwnWrong : ChangeSpec := { name := "fxOwn", fn := fun _ => fun
  | [d] => { results := [.lit (.bool false)], args := [d] }
  | _ => none }
def FxOwnWrongFalsely : Prop := fxOwnRow.holds Tryd.pinned (OpenSpec.ofChange fxOwnWrong)

/-- 'accountinglaw11.FxRounds': WHATEVER THE INPUT: true; the input reads as it did. -/
def fxRoundsSpec : ChangeSpec := { name := "fxRounds", fn := fun _ => fun
  | [d] => { results := [.lit (.bool true)], args := [d] }
  | _ => none }
def fxRoundsRow : OpenClaim := { program := "ytncbfpigojeekaadoor", sum := "bb74c151bd31eec4c846a9006e50184f15238fa80de2fdfa83109ccf1ab7e917", func := "accounting/accountinglaw11.FxRounds", spec := "fxRounds", inPlace := ["slices.overlaps[accounting/api.Rate]"], unfollowed := true, recurses := true, named := ["accounting/days.lengths"], plainKeys := false, apart := false, laid := [("accounting/days.lengths", laid_accounting_days_lengths)] }
def FxRoundsSaid : Prop := fxRoundsRow.holds Tryd.pinned (OpenSpec.ofChange fxRoundsSpec)

/-- ITS FALSE NEIGHBOUR: 'it returns false'. Refute it at one input. -/
def fxRoundsWrong : ChangeSpec := { name := "fxRounds", fn := fun _ => fun
  | [d] => { results := [.lit (.bool false)], args := [d] }
  | _ => none }
def FxRoundsWrongFalsely : Prop := fxRoundsRow.holds Tryd.pinned (OpenSpec.ofChange fxRoundsWrong)

/- THE SECOND FORM. 'bulk': how many values and letters a reading holds, each counted each time it is reached (what is shared counts as often as it is met; a slice's spare places count too). A statement '..UptoSaid' is the law's where the arguments, and the package variables that the reading takes, are together of bulk at most 1048576: NARROWER than '..Said'. Prove '..Said' where nothing that the law and all that it calls make is longer than what came in: it says more and counts as full. Else prove '..UptoSaid'. A law counts once. -/
mutual
def uptoBulk {H : Type} : DataW H → Nat
  | .lit (.string bytes) => bytes.length + 1
  | .lit _ => 1
  | .nil => 1
  | .ptr d => uptoBulk d + 1
  | .slice elems spare => uptoBulkAll elems + uptoBulkAll spare + 1
  | .agg parts => uptoBulkAll parts + 1
  | .iface _ d => uptoBulk d + 1
  | .map entries => uptoBulkEntries entries + 1
  | .held _ => 1
def uptoBulkAll {H : Type} : List (DataW H) → Nat
  | [] => 0
  | d :: r => uptoBulk d + uptoBulkAll r
def uptoBulkEntries {H : Type} : List (Lit × DataW H) → Nat
  | [] => 0
  | x :: r => uptoBulkEntry x + uptoBulkEntries r
def uptoBulkEntry {H : Type} : Lit × DataW H → Nat
  | (.string bytes, d) => bytes.length + uptoBulk d + 1
  | (_, d) => uptoBulk d + 1
 end
def uptoSmall : (H : Type) → List (DataW H) → Bool := fun _ ds => decide (uptoBulkAll ds ≤ 1048576)
def OpenSpec.upto (s : _root_.Go.ChangeSpec) : _root_.Go.OpenSpec := { _root_.Go.OpenSpec.ofChange s with cond := some uptoSmall }

/-- 'accountinglaw11.FxNewReference', WHERE WHAT IT READS IS OF BULK AT MOST 1048576: true; the input reads as it did. -/
def fxNewReferenceUptoRow : OpenClaim := { program := "ytncbfpigojeekaadoor", sum := "bb74c151bd31eec4c846a9006e50184f15238fa80de2fdfa83109ccf1ab7e917", func := "accounting/accountinglaw11.FxNewReference", spec := "fxNewReference", inPlace := ["slices.overlaps[accounting/api.Rate]"], unfollowed := true, recurses := true, named := ["accounting/days.lengths"], plainKeys := false, apart := false, laid := [("accounting/days.lengths", laid_accounting_days_lengths)], narrowed := true }
def FxNewReferenceUptoSaid : Prop := fxNewReferenceUptoRow.holds Tryd.pinned (OpenSpec.upto fxNewReferenceSpec)

/-- 'accountinglaw11.FxAnswers', WHERE WHAT IT READS IS OF BULK AT MOST 1048576: true; the input reads as it did. -/
def fxAnswersUptoRow : OpenClaim := { program := "ytncbfpigojeekaadoor", sum := "bb74c151bd31eec4c846a9006e50184f15238fa80de2fdfa83109ccf1ab7e917", func := "accounting/accountinglaw11.FxAnswers", spec := "fxAnswers", inPlace := ["slices.overlaps[accounting/api.Rate]"], unfollowed := true, recurses := true, named := ["accounting/days.lengths"], plainKeys := false, apart := false, laid := [("accounting/days.lengths", laid_accounting_days_lengths)], narrowed := true }
def FxAnswersUptoSaid : Prop := fxAnswersUptoRow.holds Tryd.pinned (OpenSpec.upto fxAnswersSpec)

/-- 'accountinglaw11.FxLatest', WHERE WHAT IT READS IS OF BULK AT MOST 1048576: true; the input reads as it did. -/
def fxLatestUptoRow : OpenClaim := { program := "ytncbfpigojeekaadoor", sum := "bb74c151bd31eec4c846a9006e50184f15238fa80de2fdfa83109ccf1ab7e917", func := "accounting/accountinglaw11.FxLatest", spec := "fxLatest", inPlace := ["slices.overlaps[accounting/api.Rate]"], unfollowed := true, recurses := true, named := ["accounting/days.lengths"], plainKeys := false, apart := false, laid := [("accounting/days.lengths", laid_accounting_days_lengths)], narrowed := true }
def FxLatestUptoSaid : Prop := fxLatestUptoRow.holds Tryd.pinned (OpenSpec.upto fxLatestSpec)

/-- 'accountinglaw11.FxOrder', WHERE WHAT IT READS IS OF BULK AT MOST 1048576: true; the input reads as it did. -/
def fxOrderUptoRow : OpenClaim := { program := "ytncbfpigojeekaadoor", sum := "bb74c151bd31eec4c846a9006e50184f15238fa80de2fdfa83109ccf1ab7e917", func := "accounting/accountinglaw11.FxOrder", spec := "fxOrder", inPlace := ["slices.overlaps[accounting/api.Rate]"], unfollowed := true, recurses := true, named := ["accounting/days.lengths"], plainKeys := false, apart := false, laid := [("accounting/days.lengths", laid_accounting_days_lengths)], narrowed := true }
def FxOrderUptoSaid : Prop := fxOrderUptoRow.holds Tryd.pinned (OpenSpec.upto fxOrderSpec)

/-- 'accountinglaw11.FxInverse', WHERE WHAT IT READS IS OF BULK AT MOST 1048576: true; the input reads as it did. -/
def fxInverseUptoRow : OpenClaim := { program := "ytncbfpigojeekaadoor", sum := "bb74c151bd31eec4c846a9006e50184f15238fa80de2fdfa83109ccf1ab7e917", func := "accounting/accountinglaw11.FxInverse", spec := "fxInverse", inPlace := ["slices.overlaps[accounting/api.Rate]"], unfollowed := true, recurses := true, named := ["accounting/days.lengths"], plainKeys := false, apart := false, laid := [("accounting/days.lengths", laid_accounting_days_lengths)], narrowed := true }
def FxInverseUptoSaid : Prop := fxInverseUptoRow.holds Tryd.pinned (OpenSpec.upto fxInverseSpec)

/-- 'accountinglaw11.FxOwn', WHERE WHAT IT READS IS OF BULK AT MOST 1048576: true; the input reads as it did. -/
def fxOwnUptoRow : OpenClaim := { program := "ytncbfpigojeekaadoor", sum := "bb74c151bd31eec4c846a9006e50184f15238fa80de2fdfa83109ccf1ab7e917", func := "accounting/accountinglaw11.FxOwn", spec := "fxOwn", inPlace := ["slices.overlaps[accounting/api.Rate]"], unfollowed := true, recurses := true, named := ["accounting/days.lengths"], plainKeys := false, apart := false, laid := [("accounting/days.lengths", laid_accounting_days_lengths)], narrowed := true }
def FxOwnUptoSaid : Prop := fxOwnUptoRow.holds Tryd.pinned (OpenSpec.upto fxOwnSpec)

/-- 'accountinglaw11.FxRounds', WHERE WHAT IT READS IS OF BULK AT MOST 1048576: true; the input reads as it did. -/
def fxRoundsUptoRow : OpenClaim := { program := "ytncbfpigojeekaadoor", sum := "bb74c151bd31eec4c846a9006e50184f15238fa80de2fdfa83109ccf1ab7e917", func := "accounting/accountinglaw11.FxRounds", spec := "fxRounds", inPlace := ["slices.overlaps[accounting/api.Rate]"], unfollowed := true, recurses := true, named := ["accounting/days.lengths"], plainKeys := false, apart := false, laid := [("accounting/days.lengths", laid_accounting_days_lengths)], narrowed := true }
def FxRoundsUptoSaid : Prop := fxRoundsUptoRow.holds Tryd.pinned (OpenSpec.upto fxRoundsSpec)

end Rows
end Go.Proofs.YtncbfpigojeekaaDoor
