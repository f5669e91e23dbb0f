/-
  No cell of these rows narrows 'for every input' (looked for: loops, veiled, ifaces, maps, wideKeys, modest, calm, conditions, laid).
  DERIVED. THE GIVEN ROWS OF THIS SEAT. 5 by the template 'for every input the law returns true; each argument reads behind the call as it read before'; 0 by the template 'total and deterministic' (their statements: YtdlilbleohlmnaaTotals.lean).
  GIVEN WITH THE SEED: the statements are not yours to turn. If you find one false, say at which input.
  Laid BY PROGRAM, IN A SANDBOX (cutbox-rows.mjs): the forced cells as the released guide's own fill.sh prints them over the translation d117189cefa3d694… (all of the seat's roots in one cut). By AI agents, Wed Nov 11 2026. No macro, syntax, notation, axiom, sorry.
-/
import Derived.Test.YtdlilbleohlmnaaChecked
import GoSem.Claim
import GoSem.ClaimJoined
import GoSem.ClaimMapViews
import Derived.JoinedTies
import Derived.KernelRfl
namespace Go.Proofs.Ytdlilbleohlmnaa
/- THE CELL 'sum', in the pinned program and in every row, IS THE sha256 OF THE DUMP (.gsa) THAT YtdlilbleohlmnaaProg.lean LOADS. Nothing in Lean hashes anything: it is a label: what it is worth is what the hold of that sum in a sandbox is worth. -/
noncomputable def Try.pinned : Pinned := { name := "ytdlilbleohlmnaa", sum := "d117189cefa3d69489aefe2bb7e910121f0881bb6c84f0db38b51e9b7a830820", checked := Try.checked }
namespace Rows
def none {H : Type} : Left H := { results := [], args := [] }

/-- 'accountinglaw45.AcquireSplit': WHATEVER THE INPUT: true; the input reads as it did. -/
def acquireSplitSpec : ChangeSpec := { name := "acquireSplit", fn := fun _ => fun
  | [d] => { results := [.lit (.bool true)], args := [d] }
  | _ => none }
def acquireSplitRow : OpenClaim := { program := "ytdlilbleohlmnaa", sum := "d117189cefa3d69489aefe2bb7e910121f0881bb6c84f0db38b51e9b7a830820", func := "accounting/accountinglaw45.AcquireSplit", spec := "acquireSplit", inPlace := ["internal/bytealg.abigen_runtime_cmpstring", "math/bits.Add64"], unfollowed := true, recurses := true, apart := false }
def AcquireSplitSaid : Prop := acquireSplitRow.holds Try.pinned (OpenSpec.ofChange acquireSplitSpec)

/-- ITS FALSE NEIGHBOUR: 'it returns false'. Refute it at one input. -/
def acquireSplitWrong : ChangeSpec := { name := "acquireSplit", fn := fun _ => fun
  | [d] => { results := [.lit (.bool false)], args := [d] }
  | _ => none }
def AcquireSplitWrongFalsely : Prop := acquireSplitRow.holds Try.pinned (OpenSpec.ofChange acquireSplitWrong)

/-- 'accountinglaw45.AcquireParts': WHATEVER THE INPUT: true; the input reads as it did. -/
def acquirePartsSpec : ChangeSpec := { name := "acquireParts", fn := fun _ => fun
  | [d] => { results := [.lit (.bool true)], args := [d] }
  | _ => none }
def acquirePartsRow : OpenClaim := { program := "ytdlilbleohlmnaa", sum := "d117189cefa3d69489aefe2bb7e910121f0881bb6c84f0db38b51e9b7a830820", func := "accounting/accountinglaw45.AcquireParts", spec := "acquireParts", inPlace := ["internal/bytealg.abigen_runtime_cmpstring", "math/bits.Add64"], unfollowed := true, recurses := true, apart := false }
def AcquirePartsSaid : Prop := acquirePartsRow.holds Try.pinned (OpenSpec.ofChange acquirePartsSpec)

/-- ITS FALSE NEIGHBOUR: 'it returns false'. Refute it at one input. -/
def acquirePartsWrong : ChangeSpec := { name := "acquireParts", fn := fun _ => fun
  | [d] => { results := [.lit (.bool false)], args := [d] }
  | _ => none }
def AcquirePartsWrongFalsely : Prop := acquirePartsRow.holds Try.pinned (OpenSpec.ofChange acquirePartsWrong)

/-- 'accountinglaw45.AcquireBalances': WHATEVER THE INPUT: true; the input reads as it did. -/
def acquireBalancesSpec : ChangeSpec := { name := "acquireBalances", fn := fun _ => fun
  | [d] => { results := [.lit (.bool true)], args := [d] }
  | _ => none }
def acquireBalancesRow : OpenClaim := { program := "ytdlilbleohlmnaa", sum := "d117189cefa3d69489aefe2bb7e910121f0881bb6c84f0db38b51e9b7a830820", func := "accounting/accountinglaw45.AcquireBalances", spec := "acquireBalances", inPlace := ["internal/bytealg.abigen_runtime_cmpstring", "math/bits.Add64"], unfollowed := true, recurses := true, apart := false }
def AcquireBalancesSaid : Prop := acquireBalancesRow.holds Try.pinned (OpenSpec.ofChange acquireBalancesSpec)

/-- ITS FALSE NEIGHBOUR: 'it returns false'. Refute it at one input. -/
def acquireBalancesWrong : ChangeSpec := { name := "acquireBalances", fn := fun _ => fun
  | [d] => { results := [.lit (.bool false)], args := [d] }
  | _ => none }
def AcquireBalancesWrongFalsely : Prop := acquireBalancesRow.holds Try.pinned (OpenSpec.ofChange acquireBalancesWrong)

/-- 'accountinglaw45.AcquireNone': WHATEVER THE INPUT: true; the input reads as it did. -/
def acquireNoneSpec : ChangeSpec := { name := "acquireNone", fn := fun _ => fun
  | [d] => { results := [.lit (.bool true)], args := [d] }
  | _ => none }
def acquireNoneRow : OpenClaim := { program := "ytdlilbleohlmnaa", sum := "d117189cefa3d69489aefe2bb7e910121f0881bb6c84f0db38b51e9b7a830820", func := "accounting/accountinglaw45.AcquireNone", spec := "acquireNone", inPlace := ["internal/bytealg.abigen_runtime_cmpstring", "math/bits.Add64"], unfollowed := true, recurses := true, apart := false }
def AcquireNoneSaid : Prop := acquireNoneRow.holds Try.pinned (OpenSpec.ofChange acquireNoneSpec)

/-- ITS FALSE NEIGHBOUR: 'it returns false'. Refute it at one input. -/
def acquireNoneWrong : ChangeSpec := { name := "acquireNone", fn := fun _ => fun
  | [d] => { results := [.lit (.bool false)], args := [d] }
  | _ => none }
def AcquireNoneWrongFalsely : Prop := acquireNoneRow.holds Try.pinned (OpenSpec.ofChange acquireNoneWrong)

/-- 'accountinglaw45.AcquireGoodwill': WHATEVER THE INPUT: true; the input reads as it did. -/
def acquireGoodwillSpec : ChangeSpec := { name := "acquireGoodwill", fn := fun _ => fun
  | [d] => { results := [.lit (.bool true)], args := [d] }
  | _ => none }
def acquireGoodwillRow : OpenClaim := { program := "ytdlilbleohlmnaa", sum := "d117189cefa3d69489aefe2bb7e910121f0881bb6c84f0db38b51e9b7a830820", func := "accounting/accountinglaw45.AcquireGoodwill", spec := "acquireGoodwill", inPlace := ["internal/bytealg.abigen_runtime_cmpstring", "math/bits.Add64"], unfollowed := true, recurses := true, apart := false }
def AcquireGoodwillSaid : Prop := acquireGoodwillRow.holds Try.pinned (OpenSpec.ofChange acquireGoodwillSpec)

/-- ITS FALSE NEIGHBOUR: 'it returns false'. Refute it at one input. -/
def acquireGoodwillWrong : ChangeSpec := { name := "acquireGoodwill", fn := fun _ => fun
  | [d] => { results := [.lit (.bool false)], args := [d] }
  | _ => none }
def AcquireGoodwillWrongFalsely : Prop := acquireGoodwillRow.holds Try.pinned (OpenSpec.ofChange acquireGoodwillWrong)

/- THE SECOND FORM. 'bulk': how many values and letters a reading holds, each counted each time it is reached (what is shared counts as often as it is met; a slice's spare places count too). A statement '..UptoSaid' is the law's where the arguments, and the package variables that the reading takes, are together of bulk at most 1048576: NARROWER than '..Said'. Prove '..Said' where nothing that the law and all that it calls make is longer than what came in: it says more and counts as full. Else prove '..UptoSaid'. A law counts once. -/
mutual
def uptoBulk {H : Type} : DataW H → Nat
  | .lit (.string bytes) => bytes.length + 1
  | .lit _ => 1
  | .nil => 1
  | .ptr d => uptoBulk d + 1
  | .slice elems spare => uptoBulkAll elems + uptoBulkAll spare + 1
  | .agg parts => uptoBulkAll parts + 1
  | .iface _ d => uptoBulk d + 1
  | .map entries => uptoBulkEntries entries + 1
  | .held _ => 1
def uptoBulkAll {H : Type} : List (DataW H) → Nat
  | [] => 0
  | d :: r => uptoBulk d + uptoBulkAll r
def uptoBulkEntries {H : Type} : List (Lit × DataW H) → Nat
  | [] => 0
  | x :: r => uptoBulkEntry x + uptoBulkEntries r
def uptoBulkEntry {H : Type} : Lit × DataW H → Nat
  | (.string bytes, d) => bytes.length + uptoBulk d + 1
  | (_, d) => uptoBulk d + 1
 end
def uptoSmall : (H : Type) → List (DataW H) → Bool := fun _ ds => decide (uptoBulkAll ds ≤ 1048576)
def OpenSpec.upto (s : _root_.Go.ChangeSpec) : _root_.Go.OpenSpec := { _root_.Go.OpenSpec.ofChange s with cond := some uptoSmall }

/-- 'accountinglaw45.AcquireSplit', WHERE WHAT IT READS IS OF BULK AT MOST 1048576: true; the input reads as it did. -/
def acquireSplitUptoRow : OpenClaim := { program := "ytdlilbleohlmnaa", sum := "d117189cefa3d69489aefe2bb7e910121f0881bb6c84f0db38b51e9b7a830820", func := "accounting/accountinglaw45.AcquireSplit", spec := "acquireSplit", inPlace := ["internal/bytealg.abigen_runtime_cmpstring", "math/bits.Add64"], unfollowed := true, recurses := true, apart := false, narrowed := true }
def AcquireSplitUptoSaid : Prop := acquireSplitUptoRow.holds Try.pinned (OpenSpec.upto acquireSplitSpec)

/-- 'accountinglaw45.AcquireParts', WHERE WHAT IT READS IS OF BULK AT MOST 1048576: true; the input reads as it did. -/
def acquirePartsUptoRow : OpenClaim := { program := "ytdlilbleohlmnaa", sum := "d117189cefa3d69489aefe2bb7e910121f0881bb6c84f0db38b51e9b7a830820", func := "accounting/accountinglaw45.AcquireParts", spec := "acquireParts", inPlace := ["internal/bytealg.abigen_runtime_cmpstring", "math/bits.Add64"], unfollowed := true, recurses := true, apart := false, narrowed := true }
def AcquirePartsUptoSaid : Prop := acquirePartsUptoRow.holds Try.pinned (OpenSpec.upto acquirePartsSpec)

/-- 'accountinglaw45.AcquireBalances', WHERE WHAT IT READS IS OF BULK AT MOST 1048576: true; the input reads as it did. -/
def acquireBalancesUptoRow : OpenClaim := { program := "ytdlilbleohlmnaa", sum := "d117189cefa3d69489aefe2bb7e910121f0881bb6c84f0db38b51e9b7a830820", func := "accounting/accountinglaw45.AcquireBalances", spec := "acquireBalances", inPlace := ["internal/bytealg.abigen_runtime_cmpstring", "math/bits.Add64"], unfollowed := true, recurses := true, apart := false, narrowed := true }
def AcquireBalancesUptoSaid : Prop := acquireBalancesUptoRow.holds Try.pinned (OpenSpec.upto acquireBalancesSpec)

/-- 'accountinglaw45.AcquireNone', WHERE WHAT IT READS IS OF BULK AT MOST 1048576: true; the input reads as it did. -/
def acquireNoneUptoRow : OpenClaim := { program := "ytdlilbleohlmnaa", sum := "d117189cefa3d69489aefe2bb7e910121f0881bb6c84f0db38b51e9b7a830820", func := "accounting/accountinglaw45.AcquireNone", spec := "acquireNone", inPlace := ["internal/bytealg.abigen_runtime_cmpstring", "math/bits.Add64"], unfollowed := true, recurses := true, apart := false, narrowed := true }
def AcquireNoneUptoSaid : Prop := acquireNoneUptoRow.holds Try.pinned (OpenSpec.upto acquireNoneSpec)

/-- 'accountinglaw45.AcquireGoodwill', WHERE WHAT IT READS IS OF BULK AT MOST 1048576: true; the input reads as it did. -/
def acquireGoodwillUptoRow : OpenClaim := { program := "ytdlilbleohlmnaa", sum := "d117189cefa3d69489aefe2bb7e910121f0881bb6c84f0db38b51e9b7a830820", func := "accounting/accountinglaw45.AcquireGoodwill", spec := "acquireGoodwill", inPlace := ["internal/bytealg.abigen_runtime_cmpstring", "math/bits.Add64"], unfollowed := true, recurses := true, apart := false, narrowed := true }
def AcquireGoodwillUptoSaid : Prop := acquireGoodwillUptoRow.holds Try.pinned (OpenSpec.upto acquireGoodwillSpec)

end Rows
end Go.Proofs.Ytdlilbleohlmnaa
