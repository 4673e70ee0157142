/-
  No cell of these rows narrows 'for every input' (looked for: loops, veiled, ifaces, maps, wideKeys, modest, calm, conditions, laid).
  DERIVED. THE GIVEN ROWS OF THIS SEAT. 3 by the template 'for every input the law returns true; each argument reads behind the call as it read before'; 0 by the template 'total and deterministic' (their statements: YtlofjogebacndaaTotals.lean).
  GIVEN WITH THE SEED: the statements are not yours to turn. If you find one false, say at which input.
  Laid BY PROGRAM, IN A SANDBOX (cutbox-rows.mjs): the forced cells as the released guide's own fill.sh prints them over the translation ec1e8aeb7be1da6d… (all of the seat's roots in one cut). By AI agents, Wed Nov 11 2026. No macro, syntax, notation, axiom, sorry.
-/
import Derived.Test.YtlofjogebacndaaChecked
import GoSem.Claim
import GoSem.ClaimJoined
import GoSem.ClaimMapViews
import Derived.JoinedTies
import Derived.KernelRfl
namespace Go.Proofs.Ytlofjogebacndaa
/- THE CELL 'sum', in the pinned program and in every row, IS THE sha256 OF THE DUMP (.gsa) THAT YtlofjogebacndaaProg.lean LOADS. Nothing in Lean hashes anything: it is a label: what it is worth is what the hold of that sum in a sandbox is worth. -/
noncomputable def Try.pinned : Pinned := { name := "ytlofjogebacndaa", sum := "ec1e8aeb7be1da6de8cb83c7a9318303657e6419314b7ae3fa891195ab51700e", checked := Try.checked }
namespace Rows
def none {H : Type} : Left H := { results := [], args := [] }

/-- 'laws.FnExactMonitorOk': WHATEVER THE INPUT: true; the input reads as it did. -/
def fnExactMonitorOkSpec : ChangeSpec := { name := "fnExactMonitorOk", fn := fun _ => fun
  | [d] => { results := [.lit (.bool true)], args := [d] }
  | _ => none }
def fnExactMonitorOkRow : OpenClaim := { program := "ytlofjogebacndaa", sum := "ec1e8aeb7be1da6de8cb83c7a9318303657e6419314b7ae3fa891195ab51700e", func := "loop.example/belfry/laws.FnExactMonitorOk", spec := "fnExactMonitorOk", unfollowed := true, recurses := true, named := ["encoding/binary.BigEndian"], apart := false }
def FnExactMonitorOkSaid : Prop := fnExactMonitorOkRow.holds Try.pinned (OpenSpec.ofChange fnExactMonitorOkSpec)

/-- ITS FALSE NEIGHBOUR: 'it returns false'. Refute it at one input. -/
def fnExactMonitorOkWrong : ChangeSpec := { name := "fnExactMonitorOk", fn := fun _ => fun
  | [d] => { results := [.lit (.bool false)], args := [d] }
  | _ => none }
def FnExactMonitorOkWrongFalsely : Prop := fnExactMonitorOkRow.holds Try.pinned (OpenSpec.ofChange fnExactMonitorOkWrong)

/-- 'laws.FnExactClientTick': WHATEVER THE INPUT: true; the input reads as it did. -/
def fnExactClientTickSpec : ChangeSpec := { name := "fnExactClientTick", fn := fun _ => fun
  | [d1, d2] => { results := [.lit (.bool true)], args := [d1, d2] }
  | _ => none }
def fnExactClientTickRow : OpenClaim := { program := "ytlofjogebacndaa", sum := "ec1e8aeb7be1da6de8cb83c7a9318303657e6419314b7ae3fa891195ab51700e", func := "loop.example/belfry/laws.FnExactClientTick", spec := "fnExactClientTick", recurses := true, named := ["encoding/binary.BigEndian"], apart := false }
def FnExactClientTickSaid : Prop := fnExactClientTickRow.holds Try.pinned (OpenSpec.ofChange fnExactClientTickSpec)

/-- ITS FALSE NEIGHBOUR: 'it returns false'. Refute it at one input. -/
def fnExactClientTickWrong : ChangeSpec := { name := "fnExactClientTick", fn := fun _ => fun
  | [d1, d2] => { results := [.lit (.bool false)], args := [d1, d2] }
  | _ => none }
def FnExactClientTickWrongFalsely : Prop := fnExactClientTickRow.holds Try.pinned (OpenSpec.ofChange fnExactClientTickWrong)

/-- 'laws.FnMonitorTicks': WHATEVER THE INPUT: true; the input reads as it did. -/
def fnMonitorTicksSpec : ChangeSpec := { name := "fnMonitorTicks", fn := fun _ => fun
  | [d] => { results := [.lit (.bool true)], args := [d] }
  | _ => none }
def fnMonitorTicksRow : OpenClaim := { program := "ytlofjogebacndaa", sum := "ec1e8aeb7be1da6de8cb83c7a9318303657e6419314b7ae3fa891195ab51700e", func := "loop.example/belfry/laws.FnMonitorTicks", spec := "fnMonitorTicks", unfollowed := true, recurses := true, named := ["encoding/binary.BigEndian"], apart := false }
def FnMonitorTicksSaid : Prop := fnMonitorTicksRow.holds Try.pinned (OpenSpec.ofChange fnMonitorTicksSpec)

/-- ITS FALSE NEIGHBOUR: 'it returns false'. Refute it at one input. -/
def fnMonitorTicksWrong : ChangeSpec := { name := "fnMonitorTicks", fn := fun _ => fun
  | [d] => { results := [.lit (.bool false)], args := [d] }
  | _ => none }
def FnMonitorTicksWrongFalsely : Prop := fnMonitorTicksRow.holds Try.pinned (OpenSpec.ofChange fnMonitorTicksWrong)

/- THE SECOND FORM. 'bulk': how many values and letters a reading holds, each counted each time it is reached (what is shared counts as often as it is met; a slice's spare places count too). A statement '..UptoSaid' is the law's where the arguments, and the package variables that the reading takes, are together of bulk at most 1048576: NARROWER than '..Said'. Prove '..Said' where nothing that the law and all that it calls make is longer than what came in: it says more and counts as full. Else prove '..UptoSaid'. A law counts once. -/
mutual
def uptoBulk {H : Type} : DataW H → Nat
  | .lit (.string bytes) => bytes.length + 1
  | .lit _ => 1
  | .nil => 1
  | .ptr d => uptoBulk d + 1
  | .slice elems spare => uptoBulkAll elems + uptoBulkAll spare + 1
  | .agg parts => uptoBulkAll parts + 1
  | .iface _ d => uptoBulk d + 1
  | .map entries => uptoBulkEntries entries + 1
  | .held _ => 1
def uptoBulkAll {H : Type} : List (DataW H) → Nat
  | [] => 0
  | d :: r => uptoBulk d + uptoBulkAll r
def uptoBulkEntries {H : Type} : List (Lit × DataW H) → Nat
  | [] => 0
  | x :: r => uptoBulkEntry x + uptoBulkEntries r
def uptoBulkEntry {H : Type} : Lit × DataW H → Nat
  | (.string bytes, d) => bytes.length + uptoBulk d + 1
  | (_, d) => uptoBulk d + 1
 end
def uptoSmall : (H : Type) → List (DataW H) → Bool := fun _ ds => decide (uptoBulkAll ds ≤ 1048576)
def OpenSpec.upto (s : _root_.Go.ChangeSpec) : _root_.Go.OpenSpec := { _root_.Go.OpenSpec.ofChange s with cond := some uptoSmall }

/-- 'laws.FnExactMonitorOk', WHERE WHAT IT READS IS OF BULK AT MOST 1048576: true; the input reads as it did. -/
def fnExactMonitorOkUptoRow : OpenClaim := { program := "ytlofjogebacndaa", sum := "ec1e8aeb7be1da6de8cb83c7a9318303657e6419314b7ae3fa891195ab51700e", func := "loop.example/belfry/laws.FnExactMonitorOk", spec := "fnExactMonitorOk", unfollowed := true, recurses := true, named := ["encoding/binary.BigEndian"], apart := false, narrowed := true }
def FnExactMonitorOkUptoSaid : Prop := fnExactMonitorOkUptoRow.holds Try.pinned (OpenSpec.upto fnExactMonitorOkSpec)

/-- 'laws.FnExactClientTick', WHERE WHAT IT READS IS OF BULK AT MOST 1048576: true; the input reads as it did. -/
def fnExactClientTickUptoRow : OpenClaim := { program := "ytlofjogebacndaa", sum := "ec1e8aeb7be1da6de8cb83c7a9318303657e6419314b7ae3fa891195ab51700e", func := "loop.example/belfry/laws.FnExactClientTick", spec := "fnExactClientTick", recurses := true, named := ["encoding/binary.BigEndian"], apart := false, narrowed := true }
def FnExactClientTickUptoSaid : Prop := fnExactClientTickUptoRow.holds Try.pinned (OpenSpec.upto fnExactClientTickSpec)

/-- 'laws.FnMonitorTicks', WHERE WHAT IT READS IS OF BULK AT MOST 1048576: true; the input reads as it did. -/
def fnMonitorTicksUptoRow : OpenClaim := { program := "ytlofjogebacndaa", sum := "ec1e8aeb7be1da6de8cb83c7a9318303657e6419314b7ae3fa891195ab51700e", func := "loop.example/belfry/laws.FnMonitorTicks", spec := "fnMonitorTicks", unfollowed := true, recurses := true, named := ["encoding/binary.BigEndian"], apart := false, narrowed := true }
def FnMonitorTicksUptoSaid : Prop := fnMonitorTicksUptoRow.holds Try.pinned (OpenSpec.upto fnMonitorTicksSpec)

end Rows
end Go.Proofs.Ytlofjogebacndaa
