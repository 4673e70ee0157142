/-
  No cell of these rows narrows 'for every input' (looked for: loops, veiled, ifaces, maps, wideKeys, modest, calm, conditions, laid).
  DERIVED. THE GIVEN ROWS OF THIS SEAT. 4 by the template 'for every input the law returns true; each argument reads behind the call as it read before'; 0 by the template 'total and deterministic' (their statements: YtobfeplphdnhfaaTotals.lean).
  GIVEN WITH THE SEED: the statements are not yours to turn. If you find one false, say at which input.
  Laid BY PROGRAM, IN A SANDBOX (cutbox-rows.mjs): the forced cells as the released guide's own fill.sh prints them over the translation 96bfad350b168333… (all of the seat's roots in one cut). By AI agents, Wed Nov 11 2026. No macro, syntax, notation, axiom, sorry.
-/
import Derived.Test.YtobfeplphdnhfaaChecked
import GoSem.Claim
import GoSem.ClaimJoined
import GoSem.ClaimMapViews
import Derived.JoinedTies
import Derived.KernelRfl
namespace Go.Proofs.Ytobfeplphdnhfaa
/- THE CELL 'sum', in the pinned program and in every row, IS THE sha256 OF THE DUMP (.gsa) THAT YtobfeplphdnhfaaProg.lean LOADS. Nothing in Lean hashes anything: it is a label: what it is worth is what the hold of that sum in a sandbox is worth. -/
noncomputable def Try.pinned : Pinned := { name := "ytobfeplphdnhfaa", sum := "96bfad350b1683335614ad6bc98589a6d7ff32706684e56b85f55fe59c07690c", checked := Try.checked }
namespace Rows
def none {H : Type} : Left H := { results := [], args := [] }

/-- 'laws.FnBagPlaces': WHATEVER THE INPUT: true; the input reads as it did. -/
def fnBagPlacesSpec : ChangeSpec := { name := "fnBagPlaces", fn := fun _ => fun
  | [d] => { results := [.lit (.bool true)], args := [d] }
  | _ => none }
def fnBagPlacesRow : OpenClaim := { program := "ytobfeplphdnhfaa", sum := "96bfad350b1683335614ad6bc98589a6d7ff32706684e56b85f55fe59c07690c", func := "loop.example/belfry/laws.FnBagPlaces", spec := "fnBagPlaces", apart := false }
def FnBagPlacesSaid : Prop := fnBagPlacesRow.holds Try.pinned (OpenSpec.ofChange fnBagPlacesSpec)

/-- ITS FALSE NEIGHBOUR: 'it returns false'. Refute it at one input. -/
def fnBagPlacesWrong : ChangeSpec := { name := "fnBagPlaces", fn := fun _ => fun
  | [d] => { results := [.lit (.bool false)], args := [d] }
  | _ => none }
def FnBagPlacesWrongFalsely : Prop := fnBagPlacesRow.holds Try.pinned (OpenSpec.ofChange fnBagPlacesWrong)

/-- 'laws.FnBagKept': WHATEVER THE INPUT: true; the input reads as it did. -/
def fnBagKeptSpec : ChangeSpec := { name := "fnBagKept", fn := fun _ => fun
  | [d] => { results := [.lit (.bool true)], args := [d] }
  | _ => none }
def fnBagKeptRow : OpenClaim := { program := "ytobfeplphdnhfaa", sum := "96bfad350b1683335614ad6bc98589a6d7ff32706684e56b85f55fe59c07690c", func := "loop.example/belfry/laws.FnBagKept", spec := "fnBagKept", apart := false }
def FnBagKeptSaid : Prop := fnBagKeptRow.holds Try.pinned (OpenSpec.ofChange fnBagKeptSpec)

/-- ITS FALSE NEIGHBOUR: 'it returns false'. Refute it at one input. -/
def fnBagKeptWrong : ChangeSpec := { name := "fnBagKept", fn := fun _ => fun
  | [d] => { results := [.lit (.bool false)], args := [d] }
  | _ => none }
def FnBagKeptWrongFalsely : Prop := fnBagKeptRow.holds Try.pinned (OpenSpec.ofChange fnBagKeptWrong)

/-- 'laws.FnExactBagFor': WHATEVER THE INPUT: true; the input reads as it did. -/
def fnExactBagForSpec : ChangeSpec := { name := "fnExactBagFor", fn := fun _ => fun
  | [d1, d2] => { results := [.lit (.bool true)], args := [d1, d2] }
  | _ => none }
def fnExactBagForRow : OpenClaim := { program := "ytobfeplphdnhfaa", sum := "96bfad350b1683335614ad6bc98589a6d7ff32706684e56b85f55fe59c07690c", func := "loop.example/belfry/laws.FnExactBagFor", spec := "fnExactBagFor", apart := false }
def FnExactBagForSaid : Prop := fnExactBagForRow.holds Try.pinned (OpenSpec.ofChange fnExactBagForSpec)

/-- ITS FALSE NEIGHBOUR: 'it returns false'. Refute it at one input. -/
def fnExactBagForWrong : ChangeSpec := { name := "fnExactBagFor", fn := fun _ => fun
  | [d1, d2] => { results := [.lit (.bool false)], args := [d1, d2] }
  | _ => none }
def FnExactBagForWrongFalsely : Prop := fnExactBagForRow.holds Try.pinned (OpenSpec.ofChange fnExactBagForWrong)

/-- 'laws.FnBagBack': WHATEVER THE INPUT: true; the input reads as it did. -/
def fnBagBackSpec : ChangeSpec := { name := "fnBagBack", fn := fun _ => fun
  | [d] => { results := [.lit (.bool true)], args := [d] }
  | _ => none }
def fnBagBackRow : OpenClaim := { program := "ytobfeplphdnhfaa", sum := "96bfad350b1683335614ad6bc98589a6d7ff32706684e56b85f55fe59c07690c", func := "loop.example/belfry/laws.FnBagBack", spec := "fnBagBack", apart := false }
def FnBagBackSaid : Prop := fnBagBackRow.holds Try.pinned (OpenSpec.ofChange fnBagBackSpec)

/-- ITS FALSE NEIGHBOUR: 'it returns false'. Refute it at one input. -/
def fnBagBackWrong : ChangeSpec := { name := "fnBagBack", fn := fun _ => fun
  | [d] => { results := [.lit (.bool false)], args := [d] }
  | _ => none }
def FnBagBackWrongFalsely : Prop := fnBagBackRow.holds Try.pinned (OpenSpec.ofChange fnBagBackWrong)

/- THE SECOND FORM. 'bulk': how many values and letters a reading holds, each counted each time it is reached (what is shared counts as often as it is met; a slice's spare places count too). A statement '..UptoSaid' is the law's where the arguments, and the package variables that the reading takes, are together of bulk at most 1048576: NARROWER than '..Said'. Prove '..Said' where nothing that the law and all that it calls make is longer than what came in: it says more and counts as full. Else prove '..UptoSaid'. A law counts once. -/
mutual
def uptoBulk {H : Type} : DataW H → Nat
  | .lit (.string bytes) => bytes.length + 1
  | .lit _ => 1
  | .nil => 1
  | .ptr d => uptoBulk d + 1
  | .slice elems spare => uptoBulkAll elems + uptoBulkAll spare + 1
  | .agg parts => uptoBulkAll parts + 1
  | .iface _ d => uptoBulk d + 1
  | .map entries => uptoBulkEntries entries + 1
  | .held _ => 1
def uptoBulkAll {H : Type} : List (DataW H) → Nat
  | [] => 0
  | d :: r => uptoBulk d + uptoBulkAll r
def uptoBulkEntries {H : Type} : List (Lit × DataW H) → Nat
  | [] => 0
  | x :: r => uptoBulkEntry x + uptoBulkEntries r
def uptoBulkEntry {H : Type} : Lit × DataW H → Nat
  | (.string bytes, d) => bytes.length + uptoBulk d + 1
  | (_, d) => uptoBulk d + 1
 end
def uptoSmall : (H : Type) → List (DataW H) → Bool := fun _ ds => decide (uptoBulkAll ds ≤ 1048576)
def OpenSpec.upto (s : _root_.Go.ChangeSpec) : _root_.Go.OpenSpec := { _root_.Go.OpenSpec.ofChange s with cond := some uptoSmall }

/-- 'laws.FnBagPlaces', WHERE WHAT IT READS IS OF BULK AT MOST 1048576: true; the input reads as it did. -/
def fnBagPlacesUptoRow : OpenClaim := { program := "ytobfeplphdnhfaa", sum := "96bfad350b1683335614ad6bc98589a6d7ff32706684e56b85f55fe59c07690c", func := "loop.example/belfry/laws.FnBagPlaces", spec := "fnBagPlaces", apart := false, narrowed := true }
def FnBagPlacesUptoSaid : Prop := fnBagPlacesUptoRow.holds Try.pinned (OpenSpec.upto fnBagPlacesSpec)

/-- 'laws.FnBagKept', WHERE WHAT IT READS IS OF BULK AT MOST 1048576: true; the input reads as it did. -/
def fnBagKeptUptoRow : OpenClaim := { program := "ytobfeplphdnhfaa", sum := "96bfad350b1683335614ad6bc98589a6d7ff32706684e56b85f55fe59c07690c", func := "loop.example/belfry/laws.FnBagKept", spec := "fnBagKept", apart := false, narrowed := true }
def FnBagKeptUptoSaid : Prop := fnBagKeptUptoRow.holds Try.pinned (OpenSpec.upto fnBagKeptSpec)

/-- 'laws.FnExactBagFor', WHERE WHAT IT READS IS OF BULK AT MOST 1048576: true; the input reads as it did. -/
def fnExactBagForUptoRow : OpenClaim := { program := "ytobfeplphdnhfaa", sum := "96bfad350b1683335614ad6bc98589a6d7ff32706684e56b85f55fe59c07690c", func := "loop.example/belfry/laws.FnExactBagFor", spec := "fnExactBagFor", apart := false, narrowed := true }
def FnExactBagForUptoSaid : Prop := fnExactBagForUptoRow.holds Try.pinned (OpenSpec.upto fnExactBagForSpec)

/-- 'laws.FnBagBack', WHERE WHAT IT READS IS OF BULK AT MOST 1048576: true; the input reads as it did. -/
def fnBagBackUptoRow : OpenClaim := { program := "ytobfeplphdnhfaa", sum := "96bfad350b1683335614ad6bc98589a6d7ff32706684e56b85f55fe59c07690c", func := "loop.example/belfry/laws.FnBagBack", spec := "fnBagBack", apart := false, narrowed := true }
def FnBagBackUptoSaid : Prop := fnBagBackUptoRow.holds Try.pinned (OpenSpec.upto fnBagBackSpec)

end Rows
end Go.Proofs.Ytobfeplphdnhfaa
