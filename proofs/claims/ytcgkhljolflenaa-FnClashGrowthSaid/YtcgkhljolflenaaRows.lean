/-
  No cell of these rows narrows 'for every input' (looked for: loops, veiled, ifaces, maps, wideKeys, modest, calm, conditions, laid).
  DERIVED. THE GIVEN ROWS OF THIS SEAT. 4 by the template 'for every input the law returns true; each argument reads behind the call as it read before'; 0 by the template 'total and deterministic' (their statements: YtcgkhljolflenaaTotals.lean).
  GIVEN WITH THE SEED: the statements are not yours to turn. If you find one false, say at which input.
  Laid BY PROGRAM, IN A SANDBOX (cutbox-rows.mjs): the forced cells as the released guide's own fill.sh prints them over the translation 0259c10d5aa97c84… (all of the seat's roots in one cut). By AI agents, Wed Nov 11 2026. No macro, syntax, notation, axiom, sorry.
-/
import Derived.Test.YtcgkhljolflenaaChecked
import GoSem.Claim
import GoSem.ClaimJoined
import GoSem.ClaimMapViews
import Derived.JoinedTies
import Derived.KernelRfl
namespace Go.Proofs.Ytcgkhljolflenaa
/- THE CELL 'sum', in the pinned program and in every row, IS THE sha256 OF THE DUMP (.gsa) THAT YtcgkhljolflenaaProg.lean LOADS. Nothing in Lean hashes anything: it is a label: what it is worth is what the hold of that sum in a sandbox is worth. -/
noncomputable def Try.pinned : Pinned := { name := "ytcgkhljolflenaa", sum := "0259c10d5aa97c848816aae87f3bc3998ebbe6798f4c8be5e91f451ea3335799", checked := Try.checked }
namespace Rows
def none {H : Type} : Left H := { results := [], args := [] }

/-- 'laws.FnClashRows': WHATEVER THE INPUT: true; the input reads as it did. -/
def fnClashRowsSpec : ChangeSpec := { name := "fnClashRows", fn := fun _ => fun
  | [d] => { results := [.lit (.bool true)], args := [d] }
  | _ => none }
def fnClashRowsRow : OpenClaim := { program := "ytcgkhljolflenaa", sum := "0259c10d5aa97c848816aae87f3bc3998ebbe6798f4c8be5e91f451ea3335799", func := "loop.example/belfry/laws.FnClashRows", spec := "fnClashRows", unfollowed := true, recurses := true, named := ["encoding/binary.BigEndian"], plainKeys := false, apart := false }
def FnClashRowsSaid : Prop := fnClashRowsRow.holds Try.pinned (OpenSpec.ofChange fnClashRowsSpec)

/-- ITS FALSE NEIGHBOUR: 'it returns false'. Refute it at one input. -/
def fnClashRowsWrong : ChangeSpec := { name := "fnClashRows", fn := fun _ => fun
  | [d] => { results := [.lit (.bool false)], args := [d] }
  | _ => none }
def FnClashRowsWrongFalsely : Prop := fnClashRowsRow.holds Try.pinned (OpenSpec.ofChange fnClashRowsWrong)

/-- 'laws.FnClashPaths': WHATEVER THE INPUT: true; the input reads as it did. -/
def fnClashPathsSpec : ChangeSpec := { name := "fnClashPaths", fn := fun _ => fun
  | [d] => { results := [.lit (.bool true)], args := [d] }
  | _ => none }
def fnClashPathsRow : OpenClaim := { program := "ytcgkhljolflenaa", sum := "0259c10d5aa97c848816aae87f3bc3998ebbe6798f4c8be5e91f451ea3335799", func := "loop.example/belfry/laws.FnClashPaths", spec := "fnClashPaths", unfollowed := true, recurses := true, named := ["encoding/binary.BigEndian"], plainKeys := false, apart := false }
def FnClashPathsSaid : Prop := fnClashPathsRow.holds Try.pinned (OpenSpec.ofChange fnClashPathsSpec)

/-- ITS FALSE NEIGHBOUR: 'it returns false'. Refute it at one input. -/
def fnClashPathsWrong : ChangeSpec := { name := "fnClashPaths", fn := fun _ => fun
  | [d] => { results := [.lit (.bool false)], args := [d] }
  | _ => none }
def FnClashPathsWrongFalsely : Prop := fnClashPathsRow.holds Try.pinned (OpenSpec.ofChange fnClashPathsWrong)

/-- 'laws.FnChainWhole': WHATEVER THE INPUT: true; the input reads as it did. -/
def fnChainWholeSpec : ChangeSpec := { name := "fnChainWhole", fn := fun _ => fun
  | [d] => { results := [.lit (.bool true)], args := [d] }
  | _ => none }
def fnChainWholeRow : OpenClaim := { program := "ytcgkhljolflenaa", sum := "0259c10d5aa97c848816aae87f3bc3998ebbe6798f4c8be5e91f451ea3335799", func := "loop.example/belfry/laws.FnChainWhole", spec := "fnChainWhole", unfollowed := true, recurses := true, named := ["encoding/binary.BigEndian"], plainKeys := false, apart := false }
def FnChainWholeSaid : Prop := fnChainWholeRow.holds Try.pinned (OpenSpec.ofChange fnChainWholeSpec)

/-- ITS FALSE NEIGHBOUR: 'it returns false'. Refute it at one input. -/
def fnChainWholeWrong : ChangeSpec := { name := "fnChainWhole", fn := fun _ => fun
  | [d] => { results := [.lit (.bool false)], args := [d] }
  | _ => none }
def FnChainWholeWrongFalsely : Prop := fnChainWholeRow.holds Try.pinned (OpenSpec.ofChange fnChainWholeWrong)

/-- 'laws.FnClashGrowth': WHATEVER THE INPUT: true; the input reads as it did. -/
def fnClashGrowthSpec : ChangeSpec := { name := "fnClashGrowth", fn := fun _ => fun
  | [d] => { results := [.lit (.bool true)], args := [d] }
  | _ => none }
def fnClashGrowthRow : OpenClaim := { program := "ytcgkhljolflenaa", sum := "0259c10d5aa97c848816aae87f3bc3998ebbe6798f4c8be5e91f451ea3335799", func := "loop.example/belfry/laws.FnClashGrowth", spec := "fnClashGrowth", unfollowed := true, recurses := true, named := ["encoding/binary.BigEndian"], plainKeys := false, apart := false }
def FnClashGrowthSaid : Prop := fnClashGrowthRow.holds Try.pinned (OpenSpec.ofChange fnClashGrowthSpec)

/-- ITS FALSE NEIGHBOUR: 'it returns false'. Refute it at one input. -/
def fnClashGrowthWrong : ChangeSpec := { name := "fnClashGrowth", fn := fun _ => fun
  | [d] => { results := [.lit (.bool false)], args := [d] }
  | _ => none }
def FnClashGrowthWrongFalsely : Prop := fnClashGrowthRow.holds Try.pinned (OpenSpec.ofChange fnClashGrowthWrong)

/- THE SECOND FORM. 'bulk': how many values and letters a reading holds, each counted each time it is reached (what is shared counts as often as it is met; a slice's spare places count too). A statement '..UptoSaid' is the law's where the arguments, and the package variables that the reading takes, are together of bulk at most 1048576: NARROWER than '..Said'. Prove '..Said' where nothing that the law and all that it calls make is longer than what came in: it says more and counts as full. Else prove '..UptoSaid'. A law counts once. -/
mutual
def uptoBulk {H : Type} : DataW H → Nat
  | .lit (.string bytes) => bytes.length + 1
  | .lit _ => 1
  | .nil => 1
  | .ptr d => uptoBulk d + 1
  | .slice elems spare => uptoBulkAll elems + uptoBulkAll spare + 1
  | .agg parts => uptoBulkAll parts + 1
  | .iface _ d => uptoBulk d + 1
  | .map entries => uptoBulkEntries entries + 1
  | .held _ => 1
def uptoBulkAll {H : Type} : List (DataW H) → Nat
  | [] => 0
  | d :: r => uptoBulk d + uptoBulkAll r
def uptoBulkEntries {H : Type} : List (Lit × DataW H) → Nat
  | [] => 0
  | x :: r => uptoBulkEntry x + uptoBulkEntries r
def uptoBulkEntry {H : Type} : Lit × DataW H → Nat
  | (.string bytes, d) => bytes.length + uptoBulk d + 1
  | (_, d) => uptoBulk d + 1
 end
def uptoSmall : (H : Type) → List (DataW H) → Bool := fun _ ds => decide (uptoBulkAll ds ≤ 1048576)
def OpenSpec.upto (s : _root_.Go.ChangeSpec) : _root_.Go.OpenSpec := { _root_.Go.OpenSpec.ofChange s with cond := some uptoSmall }

/-- 'laws.FnClashRows', WHERE WHAT IT READS IS OF BULK AT MOST 1048576: true; the input reads as it did. -/
def fnClashRowsUptoRow : OpenClaim := { program := "ytcgkhljolflenaa", sum := "0259c10d5aa97c848816aae87f3bc3998ebbe6798f4c8be5e91f451ea3335799", func := "loop.example/belfry/laws.FnClashRows", spec := "fnClashRows", unfollowed := true, recurses := true, named := ["encoding/binary.BigEndian"], plainKeys := false, apart := false, narrowed := true }
def FnClashRowsUptoSaid : Prop := fnClashRowsUptoRow.holds Try.pinned (OpenSpec.upto fnClashRowsSpec)

/-- 'laws.FnClashPaths', WHERE WHAT IT READS IS OF BULK AT MOST 1048576: true; the input reads as it did. -/
def fnClashPathsUptoRow : OpenClaim := { program := "ytcgkhljolflenaa", sum := "0259c10d5aa97c848816aae87f3bc3998ebbe6798f4c8be5e91f451ea3335799", func := "loop.example/belfry/laws.FnClashPaths", spec := "fnClashPaths", unfollowed := true, recurses := true, named := ["encoding/binary.BigEndian"], plainKeys := false, apart := false, narrowed := true }
def FnClashPathsUptoSaid : Prop := fnClashPathsUptoRow.holds Try.pinned (OpenSpec.upto fnClashPathsSpec)

/-- 'laws.FnChainWhole', WHERE WHAT IT READS IS OF BULK AT MOST 1048576: true; the input reads as it did. -/
def fnChainWholeUptoRow : OpenClaim := { program := "ytcgkhljolflenaa", sum := "0259c10d5aa97c848816aae87f3bc3998ebbe6798f4c8be5e91f451ea3335799", func := "loop.example/belfry/laws.FnChainWhole", spec := "fnChainWhole", unfollowed := true, recurses := true, named := ["encoding/binary.BigEndian"], plainKeys := false, apart := false, narrowed := true }
def FnChainWholeUptoSaid : Prop := fnChainWholeUptoRow.holds Try.pinned (OpenSpec.upto fnChainWholeSpec)

/-- 'laws.FnClashGrowth', WHERE WHAT IT READS IS OF BULK AT MOST 1048576: true; the input reads as it did. -/
def fnClashGrowthUptoRow : OpenClaim := { program := "ytcgkhljolflenaa", sum := "0259c10d5aa97c848816aae87f3bc3998ebbe6798f4c8be5e91f451ea3335799", func := "loop.example/belfry/laws.FnClashGrowth", spec := "fnClashGrowth", unfollowed := true, recurses := true, named := ["encoding/binary.BigEndian"], plainKeys := false, apart := false, narrowed := true }
def FnClashGrowthUptoSaid : Prop := fnClashGrowthUptoRow.holds Try.pinned (OpenSpec.upto fnClashGrowthSpec)

end Rows
end Go.Proofs.Ytcgkhljolflenaa
