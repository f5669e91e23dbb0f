/-
  NARROWER THAN 'FOR EVERY INPUT', by the rows' own cells (each row's printed sentence says how): OwnersNew: laid · OwnersMembers: laid · OwnersEffective: laid · OwnersSince: laid · OwnersInner: laid · OwnersShare: laid · OwnersOrder: laid.
  DERIVED. THE GIVEN ROWS OF THIS SEAT. 7 by the template 'for every input the law returns true; each argument reads behind the call as it read before'; 0 by the template 'total and deterministic' (their statements: YtikdiepcfdimgaaGreatDoorTotals.lean).
  GIVEN WITH THE SEED: the statements are not yours to turn. If you find one false, say at which input.
  Laid BY PROGRAM, IN A SANDBOX (cutbox-rows.mjs): the forced cells as the released guide's own fill.sh prints them over the translation c8d1f54bb74ec7ae… (all of the seat's roots in one cut). By AI agents, Wed Nov 11 2026. No macro, syntax, notation, axiom, sorry.
-/
import Derived.Test.YtikdiepcfdimgaaGreatDoorChecked
import GoSem.Claim
import GoSem.ClaimJoined
import GoSem.ClaimMapViews
import Derived.JoinedTies
import Derived.KernelRfl
namespace Go.Proofs.YtikdiepcfdimgaaGreatDoor
/- THE CELL 'sum', in the pinned program and in every row, IS THE sha256 OF THE DUMP (.gsa) THAT YtikdiepcfdimgaaGreatDoorProg.lean LOADS. Nothing in Lean hashes anything: it is a label: what it is worth is what the hold of that sum in a sandbox is worth. -/
noncomputable def Tryz.pinned : Pinned := { name := "ytikdiepcfdimgaagreatdoor", sum := "c8d1f54bb74ec7ae7c6d442170d203070b12259dca6ef1a1ffafeabb64bd0801", checked := Tryz.checked }
namespace Rows
def none {H : Type} : Left H := { results := [], args := [] }

/- WHAT THE LISTED PACKAGE-LEVEL VARIABLES READ AS WHEN THE CALL BEGINS. Each datum BY PROGRAM (the guide's laid-datum.mjs) off the statement by which the dump's own 'gosem.cut.vars' lays the variable. In a bare row this is a premise. The card (YtikdiepcfdimgaaGreatDoorCards.lean) ties it to the program's text. -/
def laid_accounting_days_lengths {H : Type} : DataW H := .agg [.lit (.int .i64 31), .lit (.int .i64 28), .lit (.int .i64 31), .lit (.int .i64 30), .lit (.int .i64 31), .lit (.int .i64 30), .lit (.int .i64 31), .lit (.int .i64 31), .lit (.int .i64 30), .lit (.int .i64 31), .lit (.int .i64 30), .lit (.int .i64 31)]

/-- 'accountinglaw43.OwnersNew': WHATEVER THE INPUT: true; the input reads as it did. -/
def ownersNewSpec : ChangeSpec := { name := "ownersNew", fn := fun _ => fun
  | [d] => { results := [.lit (.bool true)], args := [d] }
  | _ => none }
def ownersNewRow : OpenClaim := { program := "ytikdiepcfdimgaagreatdoor", sum := "c8d1f54bb74ec7ae7c6d442170d203070b12259dca6ef1a1ffafeabb64bd0801", func := "accounting/accountinglaw43.OwnersNew", spec := "ownersNew", inPlace := ["internal/reflectlite.ValueOf", "internal/reflectlite.Swapper", "(internal/reflectlite.Value).Len"], unfollowed := true, recurses := true, named := ["accounting/days.lengths"], plainKeys := false, apart := false, laid := [("accounting/days.lengths", laid_accounting_days_lengths)] }
def OwnersNewSaid : Prop := ownersNewRow.holds Tryz.pinned (OpenSpec.ofChange ownersNewSpec)

/-- ITS FALSE NEIGHBOUR: 'it returns false'. Refute it at one input. -/
def ownersNewWrong : ChangeSpec := { name := "ownersNew", fn := fun _ => fun
  | [d] => { results := [.lit (.bool false)], args := [d] }
  | _ => none }
def OwnersNewWrongFalsely : Prop := ownersNewRow.holds Tryz.pinned (OpenSpec.ofChange ownersNewWrong)

/-- 'accountinglaw43.OwnersMembers': WHATEVER THE INPUT: true; the input reads as it did. -/
def ownersMembersSpec : ChangeSpec := { name := "ownersMembers", fn := fun _ => fun
  | [d1, d2] => { results := [.lit (.bool true)], args := [d1, d2] }
  | _ => none }
def ownersMembersRow : OpenClaim := { program := "ytikdiepcfdimgaagreatdoor", sum := "c8d1f54bb74ec7ae7c6d442170d203070b12259dca6ef1a1ffafeabb64bd0801", func := "accounting/accountinglaw43.OwnersMembers", spec := "ownersMembers", inPlace := ["internal/reflectlite.ValueOf", "internal/reflectlite.Swapper", "(internal/reflectlite.Value).Len"], unfollowed := true, recurses := true, named := ["accounting/days.lengths"], plainKeys := false, apart := false, laid := [("accounting/days.lengths", laid_accounting_days_lengths)] }
def OwnersMembersSaid : Prop := ownersMembersRow.holds Tryz.pinned (OpenSpec.ofChange ownersMembersSpec)

/-- ITS FALSE NEIGHBOUR: 'it returns false'. Refute it at one input. -/
def ownersMembersWrong : ChangeSpec := { name := "ownersMembers", fn := fun _ => fun
  | [d1, d2] => { results := [.lit (.bool false)], args := [d1, d2] }
  | _ => none }
def OwnersMembersWrongFalsely : Prop := ownersMembersRow.holds Tryz.pinned (OpenSpec.ofChange ownersMembersWrong)

/-- 'accountinglaw43.OwnersEffective': WHATEVER THE INPUT: true; the input reads as it did. -/
def ownersEffectiveSpec : ChangeSpec := { name := "ownersEffective", fn := fun _ => fun
  | [d1, d2] => { results := [.lit (.bool true)], args := [d1, d2] }
  | _ => none }
def ownersEffectiveRow : OpenClaim := { program := "ytikdiepcfdimgaagreatdoor", sum := "c8d1f54bb74ec7ae7c6d442170d203070b12259dca6ef1a1ffafeabb64bd0801", func := "accounting/accountinglaw43.OwnersEffective", spec := "ownersEffective", inPlace := ["internal/reflectlite.ValueOf", "internal/reflectlite.Swapper", "(internal/reflectlite.Value).Len"], unfollowed := true, recurses := true, named := ["accounting/days.lengths"], plainKeys := false, apart := false, laid := [("accounting/days.lengths", laid_accounting_days_lengths)] }
def OwnersEffectiveSaid : Prop := ownersEffectiveRow.holds Tryz.pinned (OpenSpec.ofChange ownersEffectiveSpec)

/-- ITS FALSE NEIGHBOUR: 'it returns false'. Refute it at one input. -/
def ownersEffectiveWrong : ChangeSpec := { name := "ownersEffective", fn := fun _ => fun
  | [d1, d2] => { results := [.lit (.bool false)], args := [d1, d2] }
  | _ => none }
def OwnersEffectiveWrongFalsely : Prop := ownersEffectiveRow.holds Tryz.pinned (OpenSpec.ofChange ownersEffectiveWrong)

/-- 'accountinglaw43.OwnersSince': WHATEVER THE INPUT: true; the input reads as it did. -/
def ownersSinceSpec : ChangeSpec := { name := "ownersSince", fn := fun _ => fun
  | [d1, d2] => { results := [.lit (.bool true)], args := [d1, d2] }
  | _ => none }
def ownersSinceRow : OpenClaim := { program := "ytikdiepcfdimgaagreatdoor", sum := "c8d1f54bb74ec7ae7c6d442170d203070b12259dca6ef1a1ffafeabb64bd0801", func := "accounting/accountinglaw43.OwnersSince", spec := "ownersSince", inPlace := ["internal/reflectlite.ValueOf", "internal/reflectlite.Swapper", "(internal/reflectlite.Value).Len"], unfollowed := true, recurses := true, named := ["accounting/days.lengths"], plainKeys := false, apart := false, laid := [("accounting/days.lengths", laid_accounting_days_lengths)] }
def OwnersSinceSaid : Prop := ownersSinceRow.holds Tryz.pinned (OpenSpec.ofChange ownersSinceSpec)

/-- ITS FALSE NEIGHBOUR: 'it returns false'. Refute it at one input. -/
def ownersSinceWrong : ChangeSpec := { name := "ownersSince", fn := fun _ => fun
  | [d1, d2] => { results := [.lit (.bool false)], args := [d1, d2] }
  | _ => none }
def OwnersSinceWrongFalsely : Prop := ownersSinceRow.holds Tryz.pinned (OpenSpec.ofChange ownersSinceWrong)

/-- 'accountinglaw43.OwnersInner': WHATEVER THE INPUT: true; the input reads as it did. -/
def ownersInnerSpec : ChangeSpec := { name := "ownersInner", fn := fun _ => fun
  | [d1, d2] => { results := [.lit (.bool true)], args := [d1, d2] }
  | _ => none }
def ownersInnerRow : OpenClaim := { program := "ytikdiepcfdimgaagreatdoor", sum := "c8d1f54bb74ec7ae7c6d442170d203070b12259dca6ef1a1ffafeabb64bd0801", func := "accounting/accountinglaw43.OwnersInner", spec := "ownersInner", inPlace := ["internal/reflectlite.ValueOf", "internal/reflectlite.Swapper", "(internal/reflectlite.Value).Len"], unfollowed := true, recurses := true, named := ["accounting/days.lengths"], plainKeys := false, apart := false, laid := [("accounting/days.lengths", laid_accounting_days_lengths)] }
def OwnersInnerSaid : Prop := ownersInnerRow.holds Tryz.pinned (OpenSpec.ofChange ownersInnerSpec)

/-- ITS FALSE NEIGHBOUR: 'it returns false'. Refute it at one input. -/
def ownersInnerWrong : ChangeSpec := { name := "ownersInner", fn := fun _ => fun
  | [d1, d2] => { results := [.lit (.bool false)], args := [d1, d2] }
  | _ => none }
def OwnersInnerWrongFalsely : Prop := ownersInnerRow.holds Tryz.pinned (OpenSpec.ofChange ownersInnerWrong)

/-- 'accountinglaw43.OwnersShare': WHATEVER THE INPUT: true; the input reads as it did. -/
def ownersShareSpec : ChangeSpec := { name := "ownersShare", fn := fun _ => fun
  | [d1, d2] => { results := [.lit (.bool true)], args := [d1, d2] }
  | _ => none }
def ownersShareRow : OpenClaim := { program := "ytikdiepcfdimgaagreatdoor", sum := "c8d1f54bb74ec7ae7c6d442170d203070b12259dca6ef1a1ffafeabb64bd0801", func := "accounting/accountinglaw43.OwnersShare", spec := "ownersShare", inPlace := ["internal/reflectlite.ValueOf", "internal/reflectlite.Swapper", "(internal/reflectlite.Value).Len"], unfollowed := true, recurses := true, named := ["accounting/days.lengths"], plainKeys := false, apart := false, laid := [("accounting/days.lengths", laid_accounting_days_lengths)] }
def OwnersShareSaid : Prop := ownersShareRow.holds Tryz.pinned (OpenSpec.ofChange ownersShareSpec)

/-- ITS FALSE NEIGHBOUR: 'it returns false'. Refute it at one input. -/
def ownersShareWrong : ChangeSpec := { name := "ownersShare", fn := fun _ => fun
  | [d1, d2] => { results := [.lit (.bool false)], args := [d1, d2] }
  | _ => none }
def OwnersShareWrongFalsely : Prop := ownersShareRow.holds Tryz.pinned (OpenSpec.ofChange ownersShareWrong)

/-- 'accountinglaw43.OwnersOrder': WHATEVER THE INPUT: true; the input reads as it did. -/
def ownersOrderSpec : ChangeSpec := { name := "ownersOrder", fn := fun _ => fun
  | [d1, d2] => { results := [.lit (.bool true)], args := [d1, d2] }
  | _ => none }
def ownersOrderRow : OpenClaim := { program := "ytikdiepcfdimgaagreatdoor", sum := "c8d1f54bb74ec7ae7c6d442170d203070b12259dca6ef1a1ffafeabb64bd0801", func := "accounting/accountinglaw43.OwnersOrder", spec := "ownersOrder", inPlace := ["internal/reflectlite.ValueOf", "internal/reflectlite.Swapper", "(internal/reflectlite.Value).Len"], unfollowed := true, recurses := true, named := ["accounting/days.lengths"], plainKeys := false, apart := false, laid := [("accounting/days.lengths", laid_accounting_days_lengths)] }
def OwnersOrderSaid : Prop := ownersOrderRow.holds Tryz.pinned (OpenSpec.ofChange ownersOrderSpec)

/-- ITS FALSE NEIGHBOUR: 'it returns false'. Refute it at one input. -/
def ownersOrderWrong : ChangeSpec := { name := "ownersOrder", fn := fun _ => fun
  | [d1, d2] => { results := [.lit (.bool false)], args := [d1, d2] }
  | _ => none }
def OwnersOrderWrongFalsely : Prop := ownersOrderRow.holds Tryz.pinned (OpenSpec.ofChange ownersOrderWrong)

/- THE SECOND FORM. 'bulk': how many values and letters a reading holds, each counted each time it is reached (what is shared counts as often as it is met; a slice's spare places count too). A statement '..UptoSaid' is the law's where the arguments, and the package variables that the reading takes, are together of bulk at most 1048576: NARROWER than '..Said'. Prove '..Said' where nothing that the law and all that it calls make is longer than what came in: it says more and counts as full. Else prove '..UptoSaid'. A law counts once. -/
mutual
def uptoBulk {H : Type} : DataW H → Nat
  | .lit (.string bytes) => bytes.length + 1
  | .lit _ => 1
  | .nil => 1
  | .ptr d => uptoBulk d + 1
  | .slice elems spare => uptoBulkAll elems + uptoBulkAll spare + 1
  | .agg parts => uptoBulkAll parts + 1
  | .iface _ d => uptoBulk d + 1
  | .map entries => uptoBulkEntries entries + 1
  | .held _ => 1
def uptoBulkAll {H : Type} : List (DataW H) → Nat
  | [] => 0
  | d :: r => uptoBulk d + uptoBulkAll r
def uptoBulkEntries {H : Type} : List (Lit × DataW H) → Nat
  | [] => 0
  | x :: r => uptoBulkEntry x + uptoBulkEntries r
def uptoBulkEntry {H : Type} : Lit × DataW H → Nat
  | (.string bytes, d) => bytes.length + uptoBulk d + 1
  | (_, d) => uptoBulk d + 1
 end
def uptoSmall : (H : Type) → List (DataW H) → Bool := fun _ ds => decide (uptoBulkAll ds ≤ 1048576)
def OpenSpec.upto (s : _root_.Go.ChangeSpec) : _root_.Go.OpenSpec := { _root_.Go.OpenSpec.ofChange s with cond := some uptoSmall }

/-- 'accountinglaw43.OwnersNew', WHERE WHAT IT READS IS OF BULK AT MOST 1048576: true; the input reads as it did. -/
def ownersNewUptoRow : OpenClaim := { program := "ytikdiepcfdimgaagreatdoor", sum := "c8d1f54bb74ec7ae7c6d442170d203070b12259dca6ef1a1ffafeabb64bd0801", func := "accounting/accountinglaw43.OwnersNew", spec := "ownersNew", inPlace := ["internal/reflectlite.ValueOf", "internal/reflectlite.Swapper", "(internal/reflectlite.Value).Len"], unfollowed := true, recurses := true, named := ["accounting/days.lengths"], plainKeys := false, apart := false, laid := [("accounting/days.lengths", laid_accounting_days_lengths)], narrowed := true }
def OwnersNewUptoSaid : Prop := ownersNewUptoRow.holds Tryz.pinned (OpenSpec.upto ownersNewSpec)

/-- 'accountinglaw43.OwnersMembers', WHERE WHAT IT READS IS OF BULK AT MOST 1048576: true; the input reads as it did. -/
def ownersMembersUptoRow : OpenClaim := { program := "ytikdiepcfdimgaagreatdoor", sum := "c8d1f54bb74ec7ae7c6d442170d203070b12259dca6ef1a1ffafeabb64bd0801", func := "accounting/accountinglaw43.OwnersMembers", spec := "ownersMembers", inPlace := ["internal/reflectlite.ValueOf", "internal/reflectlite.Swapper", "(internal/reflectlite.Value).Len"], unfollowed := true, recurses := true, named := ["accounting/days.lengths"], plainKeys := false, apart := false, laid := [("accounting/days.lengths", laid_accounting_days_lengths)], narrowed := true }
def OwnersMembersUptoSaid : Prop := ownersMembersUptoRow.holds Tryz.pinned (OpenSpec.upto ownersMembersSpec)

/-- 'accountinglaw43.OwnersEffective', WHERE WHAT IT READS IS OF BULK AT MOST 1048576: true; the input reads as it did. -/
def ownersEffectiveUptoRow : OpenClaim := { program := "ytikdiepcfdimgaagreatdoor", sum := "c8d1f54bb74ec7ae7c6d442170d203070b12259dca6ef1a1ffafeabb64bd0801", func := "accounting/accountinglaw43.OwnersEffective", spec := "ownersEffective", inPlace := ["internal/reflectlite.ValueOf", "internal/reflectlite.Swapper", "(internal/reflectlite.Value).Len"], unfollowed := true, recurses := true, named := ["accounting/days.lengths"], plainKeys := false, apart := false, laid := [("accounting/days.lengths", laid_accounting_days_lengths)], narrowed := true }
def OwnersEffectiveUptoSaid : Prop := ownersEffectiveUptoRow.holds Tryz.pinned (OpenSpec.upto ownersEffectiveSpec)

/-- 'accountinglaw43.OwnersSince', WHERE WHAT IT READS IS OF BULK AT MOST 1048576: true; the input reads as it did. -/
def ownersSinceUptoRow : OpenClaim := { program := "ytikdiepcfdimgaagreatdoor", sum := "c8d1f54bb74ec7ae7c6d442170d203070b12259dca6ef1a1ffafeabb64bd0801", func := "accounting/accountinglaw43.OwnersSince", spec := "ownersSince", inPlace := ["internal/reflectlite.ValueOf", "internal/reflectlite.Swapper", "(internal/reflectlite.Value).Len"], unfollowed := true, recurses := true, named := ["accounting/days.lengths"], plainKeys := false, apart := false, laid := [("accounting/days.lengths", laid_accounting_days_lengths)], narrowed := true }
def OwnersSinceUptoSaid : Prop := ownersSinceUptoRow.holds Tryz.pinned (OpenSpec.upto ownersSinceSpec)

/-- 'accountinglaw43.OwnersInner', WHERE WHAT IT READS IS OF BULK AT MOST 1048576: true; the input reads as it did. -/
def ownersInnerUptoRow : OpenClaim := { program := "ytikdiepcfdimgaagreatdoor", sum := "c8d1f54bb74ec7ae7c6d442170d203070b12259dca6ef1a1ffafeabb64bd0801", func := "accounting/accountinglaw43.OwnersInner", spec := "ownersInner", inPlace := ["internal/reflectlite.ValueOf", "internal/reflectlite.Swapper", "(internal/reflectlite.Value).Len"], unfollowed := true, recurses := true, named := ["accounting/days.lengths"], plainKeys := false, apart := false, laid := [("accounting/days.lengths", laid_accounting_days_lengths)], narrowed := true }
def OwnersInnerUptoSaid : Prop := ownersInnerUptoRow.holds Tryz.pinned (OpenSpec.upto ownersInnerSpec)

/-- 'accountinglaw43.OwnersShare', WHERE WHAT IT READS IS OF BULK AT MOST 1048576: true; the input reads as it did. -/
def ownersShareUptoRow : OpenClaim := { program := "ytikdiepcfdimgaagreatdoor", sum := "c8d1f54bb74ec7ae7c6d442170d203070b12259dca6ef1a1ffafeabb64bd0801", func := "accounting/accountinglaw43.OwnersShare", spec := "ownersShare", inPlace := ["internal/reflectlite.ValueOf", "internal/reflectlite.Swapper", "(internal/reflectlite.Value).Len"], unfollowed := true, recurses := true, named := ["accounting/days.lengths"], plainKeys := false, apart := false, laid := [("accounting/days.lengths", laid_accounting_days_lengths)], narrowed := true }
def OwnersShareUptoSaid : Prop := ownersShareUptoRow.holds Tryz.pinned (OpenSpec.upto ownersShareSpec)

/-- 'accountinglaw43.OwnersOrder', WHERE WHAT IT READS IS OF BULK AT MOST 1048576: true; the input reads as it did. -/
def ownersOrderUptoRow : OpenClaim := { program := "ytikdiepcfdimgaagreatdoor", sum := "c8d1f54bb74ec7ae7c6d442170d203070b12259dca6ef1a1ffafeabb64bd0801", func := "accounting/accountinglaw43.OwnersOrder", spec := "ownersOrder", inPlace := ["internal/reflectlite.ValueOf", "internal/reflectlite.Swapper", "(internal/reflectlite.Value).Len"], unfollowed := true, recurses := true, named := ["accounting/days.lengths"], plainKeys := false, apart := false, laid := [("accounting/days.lengths", laid_accounting_days_lengths)], narrowed := true }
def OwnersOrderUptoSaid : Prop := ownersOrderUptoRow.holds Tryz.pinned (OpenSpec.upto ownersOrderSpec)

end Rows
end Go.Proofs.YtikdiepcfdimgaaGreatDoor
