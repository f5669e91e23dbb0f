/-
  NARROWER THAN 'FOR EVERY INPUT', by the rows' own cells (each row's printed sentence says how): AgingBucket: laid · AgingOf: laid · AgingSums: laid · AgingOrder: laid · AgingLimit: laid.
  DERIVED. THE GIVEN ROWS OF THIS SEAT. 5 by the template 'for every input the law returns true; each argument reads behind the call as it read before'; 0 by the template 'total and deterministic' (their statements: YtohfnpkoheafkaaDoorTotals.lean).
  GIVEN WITH THE SEED: the statements are not yours to turn. If you find one false, say at which input.
  Laid BY PROGRAM, IN A SANDBOX (cutbox-rows.mjs): the forced cells as the released guide's own fill.sh prints them over the translation a6fc60ec8e8d64fd… (all of the seat's roots in one cut). By AI agents, Wed Nov 11 2026. No macro, syntax, notation, axiom, sorry.
-/
import Derived.Test.YtohfnpkoheafkaaDoorChecked
import GoSem.Claim
import GoSem.ClaimJoined
import GoSem.ClaimMapViews
import Derived.JoinedTies
import Derived.KernelRfl
namespace Go.Proofs.YtohfnpkoheafkaaDoor
/- THE CELL 'sum', in the pinned program and in every row, IS THE sha256 OF THE DUMP (.gsa) THAT YtohfnpkoheafkaaDoorProg.lean LOADS. Nothing in Lean hashes anything: it is a label: what it is worth is what the hold of that sum in a sandbox is worth. -/
noncomputable def Tryd.pinned : Pinned := { name := "ytohfnpkoheafkaadoor", sum := "a6fc60ec8e8d64fda8c664eb6be5d46461ac0719827a25c438c1ce5f4607078e", checked := Tryd.checked }
namespace Rows
def none {H : Type} : Left H := { results := [], args := [] }

/- WHAT THE LISTED PACKAGE-LEVEL VARIABLES READ AS WHEN THE CALL BEGINS. Each datum BY PROGRAM (the guide's laid-datum.mjs) off the statement by which the dump's own 'gosem.cut.vars' lays the variable. In a bare row this is a premise. The card (YtohfnpkoheafkaaDoorCards.lean) ties it to the program's text. -/
def laid_accounting_days_lengths {H : Type} : DataW H := .agg [.lit (.int .i64 31), .lit (.int .i64 28), .lit (.int .i64 31), .lit (.int .i64 30), .lit (.int .i64 31), .lit (.int .i64 30), .lit (.int .i64 31), .lit (.int .i64 31), .lit (.int .i64 30), .lit (.int .i64 31), .lit (.int .i64 30), .lit (.int .i64 31)]

/-- 'accountinglaw27.AgingBucket': WHATEVER THE INPUT: true; the input reads as it did. -/
def agingBucketSpec : ChangeSpec := { name := "agingBucket", fn := fun _ => fun
  | [d1, d2] => { results := [.lit (.bool true)], args := [d1, d2] }
  | _ => none }
def agingBucketRow : OpenClaim := { program := "ytohfnpkoheafkaadoor", sum := "a6fc60ec8e8d64fda8c664eb6be5d46461ac0719827a25c438c1ce5f4607078e", func := "accounting/accountinglaw27.AgingBucket", spec := "agingBucket", inPlace := ["internal/reflectlite.ValueOf", "internal/reflectlite.Swapper", "(internal/reflectlite.Value).Len"], unfollowed := true, recurses := true, named := ["accounting/days.lengths"], plainKeys := false, apart := false, laid := [("accounting/days.lengths", laid_accounting_days_lengths)] }
def AgingBucketSaid : Prop := agingBucketRow.holds Tryd.pinned (OpenSpec.ofChange agingBucketSpec)

/-- ITS FALSE NEIGHBOUR: 'it returns false'. Refute it at one input. -/
def agingBucketWrong : ChangeSpec := { name := "agingBucket", fn := fun _ => fun
  | [d1, d2] => { results := [.lit (.bool false)], args := [d1, d2] }
  | _ => none }
def AgingBucketWrongFalsely : Prop := agingBucketRow.holds Tryd.pinned (OpenSpec.ofChange agingBucketWrong)

/-- 'accountinglaw27.AgingOf': WHATEVER THE INPUT: true; the input reads as it did. -/
def agingOfSpec : ChangeSpec := { name := "agingOf", fn := fun _ => fun
  | [d1, d2, d3] => { results := [.lit (.bool true)], args := [d1, d2, d3] }
  | _ => none }
def agingOfRow : OpenClaim := { program := "ytohfnpkoheafkaadoor", sum := "a6fc60ec8e8d64fda8c664eb6be5d46461ac0719827a25c438c1ce5f4607078e", func := "accounting/accountinglaw27.AgingOf", spec := "agingOf", inPlace := ["internal/reflectlite.ValueOf", "internal/reflectlite.Swapper", "(internal/reflectlite.Value).Len"], unfollowed := true, recurses := true, named := ["accounting/days.lengths"], plainKeys := false, apart := false, laid := [("accounting/days.lengths", laid_accounting_days_lengths)] }
def AgingOfSaid : Prop := agingOfRow.holds Tryd.pinned (OpenSpec.ofChange agingOfSpec)

/-- ITS FALSE NEIGHBOUR: 'it returns false'. Refute it at one input. -/
def agingOfWrong : ChangeSpec := { name := "agingOf", fn := fun _ => fun
  | [d1, d2, d3] => { results := [.lit (.bool false)], args := [d1, d2, d3] }
  | _ => none }
def AgingOfWrongFalsely : Prop := agingOfRow.holds Tryd.pinned (OpenSpec.ofChange agingOfWrong)

/-- 'accountinglaw27.AgingSums': WHATEVER THE INPUT: true; the input reads as it did. -/
def agingSumsSpec : ChangeSpec := { name := "agingSums", fn := fun _ => fun
  | [d1, d2, d3] => { results := [.lit (.bool true)], args := [d1, d2, d3] }
  | _ => none }
def agingSumsRow : OpenClaim := { program := "ytohfnpkoheafkaadoor", sum := "a6fc60ec8e8d64fda8c664eb6be5d46461ac0719827a25c438c1ce5f4607078e", func := "accounting/accountinglaw27.AgingSums", spec := "agingSums", inPlace := ["internal/reflectlite.ValueOf", "internal/reflectlite.Swapper", "(internal/reflectlite.Value).Len"], unfollowed := true, recurses := true, named := ["accounting/days.lengths"], plainKeys := false, apart := false, laid := [("accounting/days.lengths", laid_accounting_days_lengths)] }
def AgingSumsSaid : Prop := agingSumsRow.holds Tryd.pinned (OpenSpec.ofChange agingSumsSpec)

/-- ITS FALSE NEIGHBOUR: 'it returns false'. Refute it at one input. -/
def agingSumsWrong : ChangeSpec := { name := "agingSums", fn := fun _ => fun
  | [d1, d2, d3] => { results := [.lit (.bool false)], args := [d1, d2, d3] }
  | _ => none }
def AgingSumsWrongFalsely : Prop := agingSumsRow.holds Tryd.pinned (OpenSpec.ofChange agingSumsWrong)

/-- 'accountinglaw27.AgingOrder': WHATEVER THE INPUT: true; the input reads as it did. -/
def agingOrderSpec : ChangeSpec := { name := "agingOrder", fn := fun _ => fun
  | [d1, d2, d3] => { results := [.lit (.bool true)], args := [d1, d2, d3] }
  | _ => none }
def agingOrderRow : OpenClaim := { program := "ytohfnpkoheafkaadoor", sum := "a6fc60ec8e8d64fda8c664eb6be5d46461ac0719827a25c438c1ce5f4607078e", func := "accounting/accountinglaw27.AgingOrder", spec := "agingOrder", inPlace := ["internal/reflectlite.ValueOf", "internal/reflectlite.Swapper", "(internal/reflectlite.Value).Len"], unfollowed := true, recurses := true, named := ["accounting/days.lengths"], plainKeys := false, apart := false, laid := [("accounting/days.lengths", laid_accounting_days_lengths)] }
def AgingOrderSaid : Prop := agingOrderRow.holds Tryd.pinned (OpenSpec.ofChange agingOrderSpec)

/-- ITS FALSE NEIGHBOUR: 'it returns false'. Refute it at one input. -/
def agingOrderWrong : ChangeSpec := { name := "agingOrder", fn := fun _ => fun
  | [d1, d2, d3] => { results := [.lit (.bool false)], args := [d1, d2, d3] }
  | _ => none }
def AgingOrderWrongFalsely : Prop := agingOrderRow.holds Tryd.pinned (OpenSpec.ofChange agingOrderWrong)

/-- 'accountinglaw27.AgingLimit': WHATEVER THE INPUT: true; the input reads as it did. -/
def agingLimitSpec : ChangeSpec := { name := "agingLimit", fn := fun _ => fun
  | [d1, d2, d3] => { results := [.lit (.bool true)], args := [d1, d2, d3] }
  | _ => none }
def agingLimitRow : OpenClaim := { program := "ytohfnpkoheafkaadoor", sum := "a6fc60ec8e8d64fda8c664eb6be5d46461ac0719827a25c438c1ce5f4607078e", func := "accounting/accountinglaw27.AgingLimit", spec := "agingLimit", inPlace := ["internal/reflectlite.ValueOf", "internal/reflectlite.Swapper", "(internal/reflectlite.Value).Len"], unfollowed := true, recurses := true, named := ["accounting/days.lengths"], plainKeys := false, apart := false, laid := [("accounting/days.lengths", laid_accounting_days_lengths)] }
def AgingLimitSaid : Prop := agingLimitRow.holds Tryd.pinned (OpenSpec.ofChange agingLimitSpec)

/-- ITS FALSE NEIGHBOUR: 'it returns false'. Refute it at one input. -/
def agingLimitWrong : ChangeSpec := { name := "agingLimit", fn := fun _ => fun
  | [d1, d2, d3] => { results := [.lit (.bool false)], args := [d1, d2, d3] }
  | _ => none }
def AgingLimitWrongFalsely : Prop := agingLimitRow.holds Tryd.pinned (OpenSpec.ofChange agingLimitWrong)

/- THE SECOND FORM. 'bulk': how many values and letters a reading holds, each counted each time it is reached (what is shared counts as often as it is met; a slice's spare places count too). A statement '..UptoSaid' is the law's where the arguments, and the package variables that the reading takes, are together of bulk at most 1048576: NARROWER than '..Said'. Prove '..Said' where nothing that the law and all that it calls make is longer than what came in: it says more and counts as full. Else prove '..UptoSaid'. A law counts once. -/
mutual
def uptoBulk {H : Type} : DataW H → Nat
  | .lit (.string bytes) => bytes.length + 1
  | .lit _ => 1
  | .nil => 1
  | .ptr d => uptoBulk d + 1
  | .slice elems spare => uptoBulkAll elems + uptoBulkAll spare + 1
  | .agg parts => uptoBulkAll parts + 1
  | .iface _ d => uptoBulk d + 1
  | .map entries => uptoBulkEntries entries + 1
  | .held _ => 1
def uptoBulkAll {H : Type} : List (DataW H) → Nat
  | [] => 0
  | d :: r => uptoBulk d + uptoBulkAll r
def uptoBulkEntries {H : Type} : List (Lit × DataW H) → Nat
  | [] => 0
  | x :: r => uptoBulkEntry x + uptoBulkEntries r
def uptoBulkEntry {H : Type} : Lit × DataW H → Nat
  | (.string bytes, d) => bytes.length + uptoBulk d + 1
  | (_, d) => uptoBulk d + 1
 end
def uptoSmall : (H : Type) → List (DataW H) → Bool := fun _ ds => decide (uptoBulkAll ds ≤ 1048576)
def OpenSpec.upto (s : _root_.Go.ChangeSpec) : _root_.Go.OpenSpec := { _root_.Go.OpenSpec.ofChange s with cond := some uptoSmall }

/-- 'accountinglaw27.AgingBucket', WHERE WHAT IT READS IS OF BULK AT MOST 1048576: true; the input reads as it did. -/
def agingBucketUptoRow : OpenClaim := { program := "ytohfnpkoheafkaadoor", sum := "a6fc60ec8e8d64fda8c664eb6be5d46461ac0719827a25c438c1ce5f4607078e", func := "accounting/accountinglaw27.AgingBucket", spec := "agingBucket", inPlace := ["internal/reflectlite.ValueOf", "internal/reflectlite.Swapper", "(internal/reflectlite.Value).Len"], unfollowed := true, recurses := true, named := ["accounting/days.lengths"], plainKeys := false, apart := false, laid := [("accounting/days.lengths", laid_accounting_days_lengths)], narrowed := true }
def AgingBucketUptoSaid : Prop := agingBucketUptoRow.holds Tryd.pinned (OpenSpec.upto agingBucketSpec)

/-- 'accountinglaw27.AgingOf', WHERE WHAT IT READS IS OF BULK AT MOST 1048576: true; the input reads as it did. -/
def agingOfUptoRow : OpenClaim := { program := "ytohfnpkoheafkaadoor", sum := "a6fc60ec8e8d64fda8c664eb6be5d46461ac0719827a25c438c1ce5f4607078e", func := "accounting/accountinglaw27.AgingOf", spec := "agingOf", inPlace := ["internal/reflectlite.ValueOf", "internal/reflectlite.Swapper", "(internal/reflectlite.Value).Len"], unfollowed := true, recurses := true, named := ["accounting/days.lengths"], plainKeys := false, apart := false, laid := [("accounting/days.lengths", laid_accounting_days_lengths)], narrowed := true }
def AgingOfUptoSaid : Prop := agingOfUptoRow.holds Tryd.pinned (OpenSpec.upto agingOfSpec)

/-- 'accountinglaw27.AgingSums', WHERE WHAT IT READS IS OF BULK AT MOST 1048576: true; the input reads as it did. -/
def agingSumsUptoRow : OpenClaim := { program := "ytohfnpkoheafkaadoor", sum := "a6fc60ec8e8d64fda8c664eb6be5d46461ac0719827a25c438c1ce5f4607078e", func := "accounting/accountinglaw27.AgingSums", spec := "agingSums", inPlace := ["internal/reflectlite.ValueOf", "internal/reflectlite.Swapper", "(internal/reflectlite.Value).Len"], unfollowed := true, recurses := true, named := ["accounting/days.lengths"], plainKeys := false, apart := false, laid := [("accounting/days.lengths", laid_accounting_days_lengths)], narrowed := true }
def AgingSumsUptoSaid : Prop := agingSumsUptoRow.holds Tryd.pinned (OpenSpec.upto agingSumsSpec)

/-- 'accountinglaw27.AgingOrder', WHERE WHAT IT READS IS OF BULK AT MOST 1048576: true; the input reads as it did. -/
def agingOrderUptoRow : OpenClaim := { program := "ytohfnpkoheafkaadoor", sum := "a6fc60ec8e8d64fda8c664eb6be5d46461ac0719827a25c438c1ce5f4607078e", func := "accounting/accountinglaw27.AgingOrder", spec := "agingOrder", inPlace := ["internal/reflectlite.ValueOf", "internal/reflectlite.Swapper", "(internal/reflectlite.Value).Len"], unfollowed := true, recurses := true, named := ["accounting/days.lengths"], plainKeys := false, apart := false, laid := [("accounting/days.lengths", laid_accounting_days_lengths)], narrowed := true }
def AgingOrderUptoSaid : Prop := agingOrderUptoRow.holds Tryd.pinned (OpenSpec.upto agingOrderSpec)

/-- 'accountinglaw27.AgingLimit', WHERE WHAT IT READS IS OF BULK AT MOST 1048576: true; the input reads as it did. -/
def agingLimitUptoRow : OpenClaim := { program := "ytohfnpkoheafkaadoor", sum := "a6fc60ec8e8d64fda8c664eb6be5d46461ac0719827a25c438c1ce5f4607078e", func := "accounting/accountinglaw27.AgingLimit", spec := "agingLimit", inPlace := ["internal/reflectlite.ValueOf", "internal/reflectlite.Swapper", "(internal/reflectlite.Value).Len"], unfollowed := true, recurses := true, named := ["accounting/days.lengths"], plainKeys := false, apart := false, laid := [("accounting/days.lengths", laid_accounting_days_lengths)], narrowed := true }
def AgingLimitUptoSaid : Prop := agingLimitUptoRow.holds Tryd.pinned (OpenSpec.upto agingLimitSpec)

end Rows
end Go.Proofs.YtohfnpkoheafkaaDoor
