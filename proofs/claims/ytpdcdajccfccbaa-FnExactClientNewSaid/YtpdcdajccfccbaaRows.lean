/-
  No cell of these rows narrows 'for every input' (looked for: loops, veiled, ifaces, maps, wideKeys, modest, calm, conditions, laid).
  DERIVED. THE GIVEN ROWS OF THIS SEAT. 7 by the template 'for every input the law returns true; each argument reads behind the call as it read before'; 0 by the template 'total and deterministic' (their statements: YtpdcdajccfccbaaTotals.lean).
  GIVEN WITH THE SEED: the statements are not yours to turn. If you find one false, say at which input.
  Laid BY PROGRAM, IN A SANDBOX (cutbox-rows.mjs): the forced cells as the released guide's own fill.sh prints them over the translation e80667f3597a5e39… (all of the seat's roots in one cut). By AI agents, Wed Nov 11 2026. No macro, syntax, notation, axiom, sorry.
-/
import Derived.Test.YtpdcdajccfccbaaChecked
import GoSem.Claim
import GoSem.ClaimJoined
import GoSem.ClaimMapViews
import Derived.JoinedTies
import Derived.KernelRfl
namespace Go.Proofs.Ytpdcdajccfccbaa
/- THE CELL 'sum', in the pinned program and in every row, IS THE sha256 OF THE DUMP (.gsa) THAT YtpdcdajccfccbaaProg.lean LOADS. Nothing in Lean hashes anything: it is a label: what it is worth is what the hold of that sum in a sandbox is worth. -/
noncomputable def Try.pinned : Pinned := { name := "ytpdcdajccfccbaa", sum := "e80667f3597a5e390fe2f7c8f7a9ae816880da098bf96e7311ca92e0055b41ad", checked := Try.checked }
namespace Rows
def none {H : Type} : Left H := { results := [], args := [] }

/-- 'laws.FnExactSetupOk': WHATEVER THE INPUT: true; the input reads as it did. -/
def fnExactSetupOkSpec : ChangeSpec := { name := "fnExactSetupOk", fn := fun _ => fun
  | [d] => { results := [.lit (.bool true)], args := [d] }
  | _ => none }
def fnExactSetupOkRow : OpenClaim := { program := "ytpdcdajccfccbaa", sum := "e80667f3597a5e390fe2f7c8f7a9ae816880da098bf96e7311ca92e0055b41ad", func := "loop.example/belfry/laws.FnExactSetupOk", spec := "fnExactSetupOk", apart := false }
def FnExactSetupOkSaid : Prop := fnExactSetupOkRow.holds Try.pinned (OpenSpec.ofChange fnExactSetupOkSpec)

/-- ITS FALSE NEIGHBOUR: 'it returns false'. Refute it at one input. -/
def fnExactSetupOkWrong : ChangeSpec := { name := "fnExactSetupOk", fn := fun _ => fun
  | [d] => { results := [.lit (.bool false)], args := [d] }
  | _ => none }
def FnExactSetupOkWrongFalsely : Prop := fnExactSetupOkRow.holds Try.pinned (OpenSpec.ofChange fnExactSetupOkWrong)

/-- 'laws.FnExactLetterOk': WHATEVER THE INPUT: true; the input reads as it did. -/
def fnExactLetterOkSpec : ChangeSpec := { name := "fnExactLetterOk", fn := fun _ => fun
  | [d] => { results := [.lit (.bool true)], args := [d] }
  | _ => none }
def fnExactLetterOkRow : OpenClaim := { program := "ytpdcdajccfccbaa", sum := "e80667f3597a5e390fe2f7c8f7a9ae816880da098bf96e7311ca92e0055b41ad", func := "loop.example/belfry/laws.FnExactLetterOk", spec := "fnExactLetterOk", apart := false }
def FnExactLetterOkSaid : Prop := fnExactLetterOkRow.holds Try.pinned (OpenSpec.ofChange fnExactLetterOkSpec)

/-- ITS FALSE NEIGHBOUR: 'it returns false'. Refute it at one input. -/
def fnExactLetterOkWrong : ChangeSpec := { name := "fnExactLetterOk", fn := fun _ => fun
  | [d] => { results := [.lit (.bool false)], args := [d] }
  | _ => none }
def FnExactLetterOkWrongFalsely : Prop := fnExactLetterOkRow.holds Try.pinned (OpenSpec.ofChange fnExactLetterOkWrong)

/-- 'laws.FnExactStepOk': WHATEVER THE INPUT: true; the input reads as it did. -/
def fnExactStepOkSpec : ChangeSpec := { name := "fnExactStepOk", fn := fun _ => fun
  | [d] => { results := [.lit (.bool true)], args := [d] }
  | _ => none }
def fnExactStepOkRow : OpenClaim := { program := "ytpdcdajccfccbaa", sum := "e80667f3597a5e390fe2f7c8f7a9ae816880da098bf96e7311ca92e0055b41ad", func := "loop.example/belfry/laws.FnExactStepOk", spec := "fnExactStepOk", apart := false }
def FnExactStepOkSaid : Prop := fnExactStepOkRow.holds Try.pinned (OpenSpec.ofChange fnExactStepOkSpec)

/-- ITS FALSE NEIGHBOUR: 'it returns false'. Refute it at one input. -/
def fnExactStepOkWrong : ChangeSpec := { name := "fnExactStepOk", fn := fun _ => fun
  | [d] => { results := [.lit (.bool false)], args := [d] }
  | _ => none }
def FnExactStepOkWrongFalsely : Prop := fnExactStepOkRow.holds Try.pinned (OpenSpec.ofChange fnExactStepOkWrong)

/-- 'laws.FnExactWorldLast': WHATEVER THE INPUT: true; the input reads as it did. -/
def fnExactWorldLastSpec : ChangeSpec := { name := "fnExactWorldLast", fn := fun _ => fun
  | [d] => { results := [.lit (.bool true)], args := [d] }
  | _ => none }
def fnExactWorldLastRow : OpenClaim := { program := "ytpdcdajccfccbaa", sum := "e80667f3597a5e390fe2f7c8f7a9ae816880da098bf96e7311ca92e0055b41ad", func := "loop.example/belfry/laws.FnExactWorldLast", spec := "fnExactWorldLast", apart := false }
def FnExactWorldLastSaid : Prop := fnExactWorldLastRow.holds Try.pinned (OpenSpec.ofChange fnExactWorldLastSpec)

/-- ITS FALSE NEIGHBOUR: 'it returns false'. Refute it at one input. -/
def fnExactWorldLastWrong : ChangeSpec := { name := "fnExactWorldLast", fn := fun _ => fun
  | [d] => { results := [.lit (.bool false)], args := [d] }
  | _ => none }
def FnExactWorldLastWrongFalsely : Prop := fnExactWorldLastRow.holds Try.pinned (OpenSpec.ofChange fnExactWorldLastWrong)

/-- 'laws.FnExactBagOk': WHATEVER THE INPUT: true; the input reads as it did. -/
def fnExactBagOkSpec : ChangeSpec := { name := "fnExactBagOk", fn := fun _ => fun
  | [d] => { results := [.lit (.bool true)], args := [d] }
  | _ => none }
def fnExactBagOkRow : OpenClaim := { program := "ytpdcdajccfccbaa", sum := "e80667f3597a5e390fe2f7c8f7a9ae816880da098bf96e7311ca92e0055b41ad", func := "loop.example/belfry/laws.FnExactBagOk", spec := "fnExactBagOk", apart := false }
def FnExactBagOkSaid : Prop := fnExactBagOkRow.holds Try.pinned (OpenSpec.ofChange fnExactBagOkSpec)

/-- ITS FALSE NEIGHBOUR: 'it returns false'. Refute it at one input. -/
def fnExactBagOkWrong : ChangeSpec := { name := "fnExactBagOk", fn := fun _ => fun
  | [d] => { results := [.lit (.bool false)], args := [d] }
  | _ => none }
def FnExactBagOkWrongFalsely : Prop := fnExactBagOkRow.holds Try.pinned (OpenSpec.ofChange fnExactBagOkWrong)

/-- 'laws.FnExactClientNew': WHATEVER THE INPUT: true; the input reads as it did. -/
def fnExactClientNewSpec : ChangeSpec := { name := "fnExactClientNew", fn := fun _ => fun
  | [d1, d2] => { results := [.lit (.bool true)], args := [d1, d2] }
  | _ => none }
def fnExactClientNewRow : OpenClaim := { program := "ytpdcdajccfccbaa", sum := "e80667f3597a5e390fe2f7c8f7a9ae816880da098bf96e7311ca92e0055b41ad", func := "loop.example/belfry/laws.FnExactClientNew", spec := "fnExactClientNew", apart := false }
def FnExactClientNewSaid : Prop := fnExactClientNewRow.holds Try.pinned (OpenSpec.ofChange fnExactClientNewSpec)

/-- ITS FALSE NEIGHBOUR: 'it returns false'. Refute it at one input. -/
def fnExactClientNewWrong : ChangeSpec := { name := "fnExactClientNew", fn := fun _ => fun
  | [d1, d2] => { results := [.lit (.bool false)], args := [d1, d2] }
  | _ => none }
def FnExactClientNewWrongFalsely : Prop := fnExactClientNewRow.holds Try.pinned (OpenSpec.ofChange fnExactClientNewWrong)

/-- 'laws.FnExactClientOk': WHATEVER THE INPUT: true; the input reads as it did. -/
def fnExactClientOkSpec : ChangeSpec := { name := "fnExactClientOk", fn := fun _ => fun
  | [d] => { results := [.lit (.bool true)], args := [d] }
  | _ => none }
def fnExactClientOkRow : OpenClaim := { program := "ytpdcdajccfccbaa", sum := "e80667f3597a5e390fe2f7c8f7a9ae816880da098bf96e7311ca92e0055b41ad", func := "loop.example/belfry/laws.FnExactClientOk", spec := "fnExactClientOk", apart := false }
def FnExactClientOkSaid : Prop := fnExactClientOkRow.holds Try.pinned (OpenSpec.ofChange fnExactClientOkSpec)

/-- ITS FALSE NEIGHBOUR: 'it returns false'. Refute it at one input. -/
def fnExactClientOkWrong : ChangeSpec := { name := "fnExactClientOk", fn := fun _ => fun
  | [d] => { results := [.lit (.bool false)], args := [d] }
  | _ => none }
def FnExactClientOkWrongFalsely : Prop := fnExactClientOkRow.holds Try.pinned (OpenSpec.ofChange fnExactClientOkWrong)

/- THE SECOND FORM. 'bulk': how many values and letters a reading holds, each counted each time it is reached (what is shared counts as often as it is met; a slice's spare places count too). A statement '..UptoSaid' is the law's where the arguments, and the package variables that the reading takes, are together of bulk at most 1048576: NARROWER than '..Said'. Prove '..Said' where nothing that the law and all that it calls make is longer than what came in: it says more and counts as full. Else prove '..UptoSaid'. A law counts once. -/
mutual
def uptoBulk {H : Type} : DataW H → Nat
  | .lit (.string bytes) => bytes.length + 1
  | .lit _ => 1
  | .nil => 1
  | .ptr d => uptoBulk d + 1
  | .slice elems spare => uptoBulkAll elems + uptoBulkAll spare + 1
  | .agg parts => uptoBulkAll parts + 1
  | .iface _ d => uptoBulk d + 1
  | .map entries => uptoBulkEntries entries + 1
  | .held _ => 1
def uptoBulkAll {H : Type} : List (DataW H) → Nat
  | [] => 0
  | d :: r => uptoBulk d + uptoBulkAll r
def uptoBulkEntries {H : Type} : List (Lit × DataW H) → Nat
  | [] => 0
  | x :: r => uptoBulkEntry x + uptoBulkEntries r
def uptoBulkEntry {H : Type} : Lit × DataW H → Nat
  | (.string bytes, d) => bytes.length + uptoBulk d + 1
  | (_, d) => uptoBulk d + 1
 end
def uptoSmall : (H : Type) → List (DataW H) → Bool := fun _ ds => decide (uptoBulkAll ds ≤ 1048576)
def OpenSpec.upto (s : _root_.Go.ChangeSpec) : _root_.Go.OpenSpec := { _root_.Go.OpenSpec.ofChange s with cond := some uptoSmall }

/-- 'laws.FnExactSetupOk', WHERE WHAT IT READS IS OF BULK AT MOST 1048576: true; the input reads as it did. -/
def fnExactSetupOkUptoRow : OpenClaim := { program := "ytpdcdajccfccbaa", sum := "e80667f3597a5e390fe2f7c8f7a9ae816880da098bf96e7311ca92e0055b41ad", func := "loop.example/belfry/laws.FnExactSetupOk", spec := "fnExactSetupOk", apart := false, narrowed := true }
def FnExactSetupOkUptoSaid : Prop := fnExactSetupOkUptoRow.holds Try.pinned (OpenSpec.upto fnExactSetupOkSpec)

/-- 'laws.FnExactLetterOk', WHERE WHAT IT READS IS OF BULK AT MOST 1048576: true; the input reads as it did. -/
def fnExactLetterOkUptoRow : OpenClaim := { program := "ytpdcdajccfccbaa", sum := "e80667f3597a5e390fe2f7c8f7a9ae816880da098bf96e7311ca92e0055b41ad", func := "loop.example/belfry/laws.FnExactLetterOk", spec := "fnExactLetterOk", apart := false, narrowed := true }
def FnExactLetterOkUptoSaid : Prop := fnExactLetterOkUptoRow.holds Try.pinned (OpenSpec.upto fnExactLetterOkSpec)

/-- 'laws.FnExactStepOk', WHERE WHAT IT READS IS OF BULK AT MOST 1048576: true; the input reads as it did. -/
def fnExactStepOkUptoRow : OpenClaim := { program := "ytpdcdajccfccbaa", sum := "e80667f3597a5e390fe2f7c8f7a9ae816880da098bf96e7311ca92e0055b41ad", func := "loop.example/belfry/laws.FnExactStepOk", spec := "fnExactStepOk", apart := false, narrowed := true }
def FnExactStepOkUptoSaid : Prop := fnExactStepOkUptoRow.holds Try.pinned (OpenSpec.upto fnExactStepOkSpec)

/-- 'laws.FnExactWorldLast', WHERE WHAT IT READS IS OF BULK AT MOST 1048576: true; the input reads as it did. -/
def fnExactWorldLastUptoRow : OpenClaim := { program := "ytpdcdajccfccbaa", sum := "e80667f3597a5e390fe2f7c8f7a9ae816880da098bf96e7311ca92e0055b41ad", func := "loop.example/belfry/laws.FnExactWorldLast", spec := "fnExactWorldLast", apart := false, narrowed := true }
def FnExactWorldLastUptoSaid : Prop := fnExactWorldLastUptoRow.holds Try.pinned (OpenSpec.upto fnExactWorldLastSpec)

/-- 'laws.FnExactBagOk', WHERE WHAT IT READS IS OF BULK AT MOST 1048576: true; the input reads as it did. -/
def fnExactBagOkUptoRow : OpenClaim := { program := "ytpdcdajccfccbaa", sum := "e80667f3597a5e390fe2f7c8f7a9ae816880da098bf96e7311ca92e0055b41ad", func := "loop.example/belfry/laws.FnExactBagOk", spec := "fnExactBagOk", apart := false, narrowed := true }
def FnExactBagOkUptoSaid : Prop := fnExactBagOkUptoRow.holds Try.pinned (OpenSpec.upto fnExactBagOkSpec)

/-- 'laws.FnExactClientNew', WHERE WHAT IT READS IS OF BULK AT MOST 1048576: true; the input reads as it did. -/
def fnExactClientNewUptoRow : OpenClaim := { program := "ytpdcdajccfccbaa", sum := "e80667f3597a5e390fe2f7c8f7a9ae816880da098bf96e7311ca92e0055b41ad", func := "loop.example/belfry/laws.FnExactClientNew", spec := "fnExactClientNew", apart := false, narrowed := true }
def FnExactClientNewUptoSaid : Prop := fnExactClientNewUptoRow.holds Try.pinned (OpenSpec.upto fnExactClientNewSpec)

/-- 'laws.FnExactClientOk', WHERE WHAT IT READS IS OF BULK AT MOST 1048576: true; the input reads as it did. -/
def fnExactClientOkUptoRow : OpenClaim := { program := "ytpdcdajccfccbaa", sum := "e80667f3597a5e390fe2f7c8f7a9ae816880da098bf96e7311ca92e0055b41ad", func := "loop.example/belfry/laws.FnExactClientOk", spec := "fnExactClientOk", apart := false, narrowed := true }
def FnExactClientOkUptoSaid : Prop := fnExactClientOkUptoRow.holds Try.pinned (OpenSpec.upto fnExactClientOkSpec)

end Rows
end Go.Proofs.Ytpdcdajccfccbaa
