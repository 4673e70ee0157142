/-
  No cell of these rows narrows 'for every input' (looked for: loops, veiled, ifaces, maps, wideKeys, modest, calm, conditions, laid).
  DERIVED. THE GIVEN ROWS OF THIS SEAT. 5 by the template 'for every input the law returns true; each argument reads behind the call as it read before'; 0 by the template 'total and deterministic' (their statements: YtgdbammhnjkbbaaTotals.lean).
  GIVEN WITH THE SEED: the statements are not yours to turn. If you find one false, say at which input.
  Laid BY PROGRAM, IN A SANDBOX (cutbox-rows.mjs): the forced cells as the released guide's own fill.sh prints them over the translation 828933924eec8cd6… (all of the seat's roots in one cut). By AI agents, Wed Nov 11 2026. No macro, syntax, notation, axiom, sorry.
-/
import Derived.Test.YtgdbammhnjkbbaaChecked
import GoSem.Claim
import GoSem.ClaimJoined
import GoSem.ClaimMapViews
import Derived.JoinedTies
import Derived.KernelRfl
namespace Go.Proofs.Ytgdbammhnjkbbaa
/- THE CELL 'sum', in the pinned program and in every row, IS THE sha256 OF THE DUMP (.gsa) THAT YtgdbammhnjkbbaaProg.lean LOADS. Nothing in Lean hashes anything: it is a label: what it is worth is what the hold of that sum in a sandbox is worth. -/
noncomputable def Try.pinned : Pinned := { name := "ytgdbammhnjkbbaa", sum := "828933924eec8cd6cf9fc105c3f7a4e994e44e60e8886a843e43676f0c9297a2", checked := Try.checked }
namespace Rows
def none {H : Type} : Left H := { results := [], args := [] }

/-- 'laws.FnExactRecordRaws': WHATEVER THE INPUT: true; the input reads as it did. -/
def fnExactRecordRawsSpec : ChangeSpec := { name := "fnExactRecordRaws", fn := fun _ => fun
  | [d1, d2, d3] => { results := [.lit (.bool true)], args := [d1, d2, d3] }
  | _ => none }
def fnExactRecordRawsRow : OpenClaim := { program := "ytgdbammhnjkbbaa", sum := "828933924eec8cd6cf9fc105c3f7a4e994e44e60e8886a843e43676f0c9297a2", func := "loop.example/belfry/laws.FnExactRecordRaws", spec := "fnExactRecordRaws", unfollowed := true, recurses := true, named := ["encoding/binary.BigEndian"], apart := false }
def FnExactRecordRawsSaid : Prop := fnExactRecordRawsRow.holds Try.pinned (OpenSpec.ofChange fnExactRecordRawsSpec)

/-- ITS FALSE NEIGHBOUR: 'it returns false'. Refute it at one input. -/
def fnExactRecordRawsWrong : ChangeSpec := { name := "fnExactRecordRaws", fn := fun _ => fun
  | [d1, d2, d3] => { results := [.lit (.bool false)], args := [d1, d2, d3] }
  | _ => none }
def FnExactRecordRawsWrongFalsely : Prop := fnExactRecordRawsRow.holds Try.pinned (OpenSpec.ofChange fnExactRecordRawsWrong)

/-- 'laws.FnExactWitnessOk': WHATEVER THE INPUT: true; the input reads as it did. -/
def fnExactWitnessOkSpec : ChangeSpec := { name := "fnExactWitnessOk", fn := fun _ => fun
  | [d] => { results := [.lit (.bool true)], args := [d] }
  | _ => none }
def fnExactWitnessOkRow : OpenClaim := { program := "ytgdbammhnjkbbaa", sum := "828933924eec8cd6cf9fc105c3f7a4e994e44e60e8886a843e43676f0c9297a2", func := "loop.example/belfry/laws.FnExactWitnessOk", spec := "fnExactWitnessOk", unfollowed := true, recurses := true, named := ["encoding/binary.BigEndian"], apart := false }
def FnExactWitnessOkSaid : Prop := fnExactWitnessOkRow.holds Try.pinned (OpenSpec.ofChange fnExactWitnessOkSpec)

/-- ITS FALSE NEIGHBOUR: 'it returns false'. Refute it at one input. -/
def fnExactWitnessOkWrong : ChangeSpec := { name := "fnExactWitnessOk", fn := fun _ => fun
  | [d] => { results := [.lit (.bool false)], args := [d] }
  | _ => none }
def FnExactWitnessOkWrongFalsely : Prop := fnExactWitnessOkRow.holds Try.pinned (OpenSpec.ofChange fnExactWitnessOkWrong)

/-- 'laws.FnRecordTop': WHATEVER THE INPUT: true; the input reads as it did. -/
def fnRecordTopSpec : ChangeSpec := { name := "fnRecordTop", fn := fun _ => fun
  | [d] => { results := [.lit (.bool true)], args := [d] }
  | _ => none }
def fnRecordTopRow : OpenClaim := { program := "ytgdbammhnjkbbaa", sum := "828933924eec8cd6cf9fc105c3f7a4e994e44e60e8886a843e43676f0c9297a2", func := "loop.example/belfry/laws.FnRecordTop", spec := "fnRecordTop", unfollowed := true, recurses := true, named := ["encoding/binary.BigEndian"], apart := false }
def FnRecordTopSaid : Prop := fnRecordTopRow.holds Try.pinned (OpenSpec.ofChange fnRecordTopSpec)

/-- ITS FALSE NEIGHBOUR: 'it returns false'. Refute it at one input. -/
def fnRecordTopWrong : ChangeSpec := { name := "fnRecordTop", fn := fun _ => fun
  | [d] => { results := [.lit (.bool false)], args := [d] }
  | _ => none }
def FnRecordTopWrongFalsely : Prop := fnRecordTopRow.holds Try.pinned (OpenSpec.ofChange fnRecordTopWrong)

/-- 'laws.FnRecordMend': WHATEVER THE INPUT: true; the input reads as it did. -/
def fnRecordMendSpec : ChangeSpec := { name := "fnRecordMend", fn := fun _ => fun
  | [d] => { results := [.lit (.bool true)], args := [d] }
  | _ => none }
def fnRecordMendRow : OpenClaim := { program := "ytgdbammhnjkbbaa", sum := "828933924eec8cd6cf9fc105c3f7a4e994e44e60e8886a843e43676f0c9297a2", func := "loop.example/belfry/laws.FnRecordMend", spec := "fnRecordMend", unfollowed := true, recurses := true, named := ["encoding/binary.BigEndian"], apart := false }
def FnRecordMendSaid : Prop := fnRecordMendRow.holds Try.pinned (OpenSpec.ofChange fnRecordMendSpec)

/-- ITS FALSE NEIGHBOUR: 'it returns false'. Refute it at one input. -/
def fnRecordMendWrong : ChangeSpec := { name := "fnRecordMend", fn := fun _ => fun
  | [d] => { results := [.lit (.bool false)], args := [d] }
  | _ => none }
def FnRecordMendWrongFalsely : Prop := fnRecordMendRow.holds Try.pinned (OpenSpec.ofChange fnRecordMendWrong)

/-- 'laws.FnRecordTorn': WHATEVER THE INPUT: true; the input reads as it did. -/
def fnRecordTornSpec : ChangeSpec := { name := "fnRecordTorn", fn := fun _ => fun
  | [d] => { results := [.lit (.bool true)], args := [d] }
  | _ => none }
def fnRecordTornRow : OpenClaim := { program := "ytgdbammhnjkbbaa", sum := "828933924eec8cd6cf9fc105c3f7a4e994e44e60e8886a843e43676f0c9297a2", func := "loop.example/belfry/laws.FnRecordTorn", spec := "fnRecordTorn", unfollowed := true, recurses := true, named := ["encoding/binary.BigEndian"], apart := false }
def FnRecordTornSaid : Prop := fnRecordTornRow.holds Try.pinned (OpenSpec.ofChange fnRecordTornSpec)

/-- ITS FALSE NEIGHBOUR: 'it returns false'. Refute it at one input. -/
def fnRecordTornWrong : ChangeSpec := { name := "fnRecordTorn", fn := fun _ => fun
  | [d] => { results := [.lit (.bool false)], args := [d] }
  | _ => none }
def FnRecordTornWrongFalsely : Prop := fnRecordTornRow.holds Try.pinned (OpenSpec.ofChange fnRecordTornWrong)

/- THE SECOND FORM. 'bulk': how many values and letters a reading holds, each counted each time it is reached (what is shared counts as often as it is met; a slice's spare places count too). A statement '..UptoSaid' is the law's where the arguments, and the package variables that the reading takes, are together of bulk at most 1048576: NARROWER than '..Said'. Prove '..Said' where nothing that the law and all that it calls make is longer than what came in: it says more and counts as full. Else prove '..UptoSaid'. A law counts once. -/
mutual
def uptoBulk {H : Type} : DataW H → Nat
  | .lit (.string bytes) => bytes.length + 1
  | .lit _ => 1
  | .nil => 1
  | .ptr d => uptoBulk d + 1
  | .slice elems spare => uptoBulkAll elems + uptoBulkAll spare + 1
  | .agg parts => uptoBulkAll parts + 1
  | .iface _ d => uptoBulk d + 1
  | .map entries => uptoBulkEntries entries + 1
  | .held _ => 1
def uptoBulkAll {H : Type} : List (DataW H) → Nat
  | [] => 0
  | d :: r => uptoBulk d + uptoBulkAll r
def uptoBulkEntries {H : Type} : List (Lit × DataW H) → Nat
  | [] => 0
  | x :: r => uptoBulkEntry x + uptoBulkEntries r
def uptoBulkEntry {H : Type} : Lit × DataW H → Nat
  | (.string bytes, d) => bytes.length + uptoBulk d + 1
  | (_, d) => uptoBulk d + 1
 end
def uptoSmall : (H : Type) → List (DataW H) → Bool := fun _ ds => decide (uptoBulkAll ds ≤ 1048576)
def OpenSpec.upto (s : _root_.Go.ChangeSpec) : _root_.Go.OpenSpec := { _root_.Go.OpenSpec.ofChange s with cond := some uptoSmall }

/-- 'laws.FnExactRecordRaws', WHERE WHAT IT READS IS OF BULK AT MOST 1048576: true; the input reads as it did. -/
def fnExactRecordRawsUptoRow : OpenClaim := { program := "ytgdbammhnjkbbaa", sum := "828933924eec8cd6cf9fc105c3f7a4e994e44e60e8886a843e43676f0c9297a2", func := "loop.example/belfry/laws.FnExactRecordRaws", spec := "fnExactRecordRaws", unfollowed := true, recurses := true, named := ["encoding/binary.BigEndian"], apart := false, narrowed := true }
def FnExactRecordRawsUptoSaid : Prop := fnExactRecordRawsUptoRow.holds Try.pinned (OpenSpec.upto fnExactRecordRawsSpec)

/-- 'laws.FnExactWitnessOk', WHERE WHAT IT READS IS OF BULK AT MOST 1048576: true; the input reads as it did. -/
def fnExactWitnessOkUptoRow : OpenClaim := { program := "ytgdbammhnjkbbaa", sum := "828933924eec8cd6cf9fc105c3f7a4e994e44e60e8886a843e43676f0c9297a2", func := "loop.example/belfry/laws.FnExactWitnessOk", spec := "fnExactWitnessOk", unfollowed := true, recurses := true, named := ["encoding/binary.BigEndian"], apart := false, narrowed := true }
def FnExactWitnessOkUptoSaid : Prop := fnExactWitnessOkUptoRow.holds Try.pinned (OpenSpec.upto fnExactWitnessOkSpec)

/-- 'laws.FnRecordTop', WHERE WHAT IT READS IS OF BULK AT MOST 1048576: true; the input reads as it did. -/
def fnRecordTopUptoRow : OpenClaim := { program := "ytgdbammhnjkbbaa", sum := "828933924eec8cd6cf9fc105c3f7a4e994e44e60e8886a843e43676f0c9297a2", func := "loop.example/belfry/laws.FnRecordTop", spec := "fnRecordTop", unfollowed := true, recurses := true, named := ["encoding/binary.BigEndian"], apart := false, narrowed := true }
def FnRecordTopUptoSaid : Prop := fnRecordTopUptoRow.holds Try.pinned (OpenSpec.upto fnRecordTopSpec)

/-- 'laws.FnRecordMend', WHERE WHAT IT READS IS OF BULK AT MOST 1048576: true; the input reads as it did. -/
def fnRecordMendUptoRow : OpenClaim := { program := "ytgdbammhnjkbbaa", sum := "828933924eec8cd6cf9fc105c3f7a4e994e44e60e8886a843e43676f0c9297a2", func := "loop.example/belfry/laws.FnRecordMend", spec := "fnRecordMend", unfollowed := true, recurses := true, named := ["encoding/binary.BigEndian"], apart := false, narrowed := true }
def FnRecordMendUptoSaid : Prop := fnRecordMendUptoRow.holds Try.pinned (OpenSpec.upto fnRecordMendSpec)

/-- 'laws.FnRecordTorn', WHERE WHAT IT READS IS OF BULK AT MOST 1048576: true; the input reads as it did. -/
def fnRecordTornUptoRow : OpenClaim := { program := "ytgdbammhnjkbbaa", sum := "828933924eec8cd6cf9fc105c3f7a4e994e44e60e8886a843e43676f0c9297a2", func := "loop.example/belfry/laws.FnRecordTorn", spec := "fnRecordTorn", unfollowed := true, recurses := true, named := ["encoding/binary.BigEndian"], apart := false, narrowed := true }
def FnRecordTornUptoSaid : Prop := fnRecordTornUptoRow.holds Try.pinned (OpenSpec.upto fnRecordTornSpec)

end Rows
end Go.Proofs.Ytgdbammhnjkbbaa
