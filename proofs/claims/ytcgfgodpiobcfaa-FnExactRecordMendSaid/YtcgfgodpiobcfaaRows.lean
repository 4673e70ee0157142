/-
  No cell of these rows narrows 'for every input' (looked for: loops, veiled, ifaces, maps, wideKeys, modest, calm, conditions, laid).
  DERIVED. THE GIVEN ROWS OF THIS SEAT. 13 by the template 'for every input the law returns true; each argument reads behind the call as it read before'; 0 by the template 'total and deterministic' (their statements: YtcgfgodpiobcfaaTotals.lean).
  GIVEN WITH THE SEED: the statements are not yours to turn. If you find one false, say at which input.
  Laid BY PROGRAM, IN A SANDBOX (cutbox-rows.mjs): the forced cells as the released guide's own fill.sh prints them over the translation a5a024c23505e677… (all of the seat's roots in one cut). By AI agents, Wed Nov 11 2026. No macro, syntax, notation, axiom, sorry.
-/
import Derived.Test.YtcgfgodpiobcfaaChecked
import GoSem.Claim
import GoSem.ClaimJoined
import GoSem.ClaimMapViews
import Derived.JoinedTies
import Derived.KernelRfl
namespace Go.Proofs.Ytcgfgodpiobcfaa
/- THE CELL 'sum', in the pinned program and in every row, IS THE sha256 OF THE DUMP (.gsa) THAT YtcgfgodpiobcfaaProg.lean LOADS. Nothing in Lean hashes anything: it is a label: what it is worth is what the hold of that sum in a sandbox is worth. -/
noncomputable def Try.pinned : Pinned := { name := "ytcgfgodpiobcfaa", sum := "a5a024c23505e6778d566a224c63152d19dd72dace90ca45d060e5fcb1c7d168", checked := Try.checked }
namespace Rows
def none {H : Type} : Left H := { results := [], args := [] }

/-- 'laws.FnExactSlotSum': WHATEVER THE INPUT: true; the input reads as it did. -/
def fnExactSlotSumSpec : ChangeSpec := { name := "fnExactSlotSum", fn := fun _ => fun
  | [d] => { results := [.lit (.bool true)], args := [d] }
  | _ => none }
def fnExactSlotSumRow : OpenClaim := { program := "ytcgfgodpiobcfaa", sum := "a5a024c23505e6778d566a224c63152d19dd72dace90ca45d060e5fcb1c7d168", func := "loop.example/belfry/laws.FnExactSlotSum", spec := "fnExactSlotSum", unfollowed := true, recurses := true, named := ["encoding/binary.BigEndian"], apart := false }
def FnExactSlotSumSaid : Prop := fnExactSlotSumRow.holds Try.pinned (OpenSpec.ofChange fnExactSlotSumSpec)

/-- ITS FALSE NEIGHBOUR: 'it returns false'. Refute it at one input. -/
def fnExactSlotSumWrong : ChangeSpec := { name := "fnExactSlotSum", fn := fun _ => fun
  | [d] => { results := [.lit (.bool false)], args := [d] }
  | _ => none }
def FnExactSlotSumWrongFalsely : Prop := fnExactSlotSumRow.holds Try.pinned (OpenSpec.ofChange fnExactSlotSumWrong)

/-- 'laws.FnExactDiskWrite': WHATEVER THE INPUT: true; the input reads as it did. -/
def fnExactDiskWriteSpec : ChangeSpec := { name := "fnExactDiskWrite", fn := fun _ => fun
  | [d1, d2] => { results := [.lit (.bool true)], args := [d1, d2] }
  | _ => none }
def fnExactDiskWriteRow : OpenClaim := { program := "ytcgfgodpiobcfaa", sum := "a5a024c23505e6778d566a224c63152d19dd72dace90ca45d060e5fcb1c7d168", func := "loop.example/belfry/laws.FnExactDiskWrite", spec := "fnExactDiskWrite", apart := false }
def FnExactDiskWriteSaid : Prop := fnExactDiskWriteRow.holds Try.pinned (OpenSpec.ofChange fnExactDiskWriteSpec)

/-- ITS FALSE NEIGHBOUR: 'it returns false'. Refute it at one input. -/
def fnExactDiskWriteWrong : ChangeSpec := { name := "fnExactDiskWrite", fn := fun _ => fun
  | [d1, d2] => { results := [.lit (.bool false)], args := [d1, d2] }
  | _ => none }
def FnExactDiskWriteWrongFalsely : Prop := fnExactDiskWriteRow.holds Try.pinned (OpenSpec.ofChange fnExactDiskWriteWrong)

/-- 'laws.FnExactSlotOk': WHATEVER THE INPUT: true; the input reads as it did. -/
def fnExactSlotOkSpec : ChangeSpec := { name := "fnExactSlotOk", fn := fun _ => fun
  | [d] => { results := [.lit (.bool true)], args := [d] }
  | _ => none }
def fnExactSlotOkRow : OpenClaim := { program := "ytcgfgodpiobcfaa", sum := "a5a024c23505e6778d566a224c63152d19dd72dace90ca45d060e5fcb1c7d168", func := "loop.example/belfry/laws.FnExactSlotOk", spec := "fnExactSlotOk", unfollowed := true, recurses := true, named := ["encoding/binary.BigEndian"], apart := false }
def FnExactSlotOkSaid : Prop := fnExactSlotOkRow.holds Try.pinned (OpenSpec.ofChange fnExactSlotOkSpec)

/-- ITS FALSE NEIGHBOUR: 'it returns false'. Refute it at one input. -/
def fnExactSlotOkWrong : ChangeSpec := { name := "fnExactSlotOk", fn := fun _ => fun
  | [d] => { results := [.lit (.bool false)], args := [d] }
  | _ => none }
def FnExactSlotOkWrongFalsely : Prop := fnExactSlotOkRow.holds Try.pinned (OpenSpec.ofChange fnExactSlotOkWrong)

/-- 'laws.FnExactRecordCut': WHATEVER THE INPUT: true; the input reads as it did. -/
def fnExactRecordCutSpec : ChangeSpec := { name := "fnExactRecordCut", fn := fun _ => fun
  | [d1, d2, d3] => { results := [.lit (.bool true)], args := [d1, d2, d3] }
  | _ => none }
def fnExactRecordCutRow : OpenClaim := { program := "ytcgfgodpiobcfaa", sum := "a5a024c23505e6778d566a224c63152d19dd72dace90ca45d060e5fcb1c7d168", func := "loop.example/belfry/laws.FnExactRecordCut", spec := "fnExactRecordCut", apart := false }
def FnExactRecordCutSaid : Prop := fnExactRecordCutRow.holds Try.pinned (OpenSpec.ofChange fnExactRecordCutSpec)

/-- ITS FALSE NEIGHBOUR: 'it returns false'. Refute it at one input. -/
def fnExactRecordCutWrong : ChangeSpec := { name := "fnExactRecordCut", fn := fun _ => fun
  | [d1, d2, d3] => { results := [.lit (.bool false)], args := [d1, d2, d3] }
  | _ => none }
def FnExactRecordCutWrongFalsely : Prop := fnExactRecordCutRow.holds Try.pinned (OpenSpec.ofChange fnExactRecordCutWrong)

/-- 'laws.FnExactRecordRead': WHATEVER THE INPUT: true; the input reads as it did. -/
def fnExactRecordReadSpec : ChangeSpec := { name := "fnExactRecordRead", fn := fun _ => fun
  | [d] => { results := [.lit (.bool true)], args := [d] }
  | _ => none }
def fnExactRecordReadRow : OpenClaim := { program := "ytcgfgodpiobcfaa", sum := "a5a024c23505e6778d566a224c63152d19dd72dace90ca45d060e5fcb1c7d168", func := "loop.example/belfry/laws.FnExactRecordRead", spec := "fnExactRecordRead", unfollowed := true, recurses := true, named := ["encoding/binary.BigEndian"], apart := false }
def FnExactRecordReadSaid : Prop := fnExactRecordReadRow.holds Try.pinned (OpenSpec.ofChange fnExactRecordReadSpec)

/-- ITS FALSE NEIGHBOUR: 'it returns false'. Refute it at one input. -/
def fnExactRecordReadWrong : ChangeSpec := { name := "fnExactRecordRead", fn := fun _ => fun
  | [d] => { results := [.lit (.bool false)], args := [d] }
  | _ => none }
def FnExactRecordReadWrongFalsely : Prop := fnExactRecordReadRow.holds Try.pinned (OpenSpec.ofChange fnExactRecordReadWrong)

/-- 'laws.FnSlotSums': WHATEVER THE INPUT: true; the input reads as it did. -/
def fnSlotSumsSpec : ChangeSpec := { name := "fnSlotSums", fn := fun _ => fun
  | [d] => { results := [.lit (.bool true)], args := [d] }
  | _ => none }
def fnSlotSumsRow : OpenClaim := { program := "ytcgfgodpiobcfaa", sum := "a5a024c23505e6778d566a224c63152d19dd72dace90ca45d060e5fcb1c7d168", func := "loop.example/belfry/laws.FnSlotSums", spec := "fnSlotSums", unfollowed := true, recurses := true, named := ["encoding/binary.BigEndian"], apart := false }
def FnSlotSumsSaid : Prop := fnSlotSumsRow.holds Try.pinned (OpenSpec.ofChange fnSlotSumsSpec)

/-- ITS FALSE NEIGHBOUR: 'it returns false'. Refute it at one input. -/
def fnSlotSumsWrong : ChangeSpec := { name := "fnSlotSums", fn := fun _ => fun
  | [d] => { results := [.lit (.bool false)], args := [d] }
  | _ => none }
def FnSlotSumsWrongFalsely : Prop := fnSlotSumsRow.holds Try.pinned (OpenSpec.ofChange fnSlotSumsWrong)

/-- 'laws.FnExactWitnessHeld': WHATEVER THE INPUT: true; the input reads as it did. -/
def fnExactWitnessHeldSpec : ChangeSpec := { name := "fnExactWitnessHeld", fn := fun _ => fun
  | [d] => { results := [.lit (.bool true)], args := [d] }
  | _ => none }
def fnExactWitnessHeldRow : OpenClaim := { program := "ytcgfgodpiobcfaa", sum := "a5a024c23505e6778d566a224c63152d19dd72dace90ca45d060e5fcb1c7d168", func := "loop.example/belfry/laws.FnExactWitnessHeld", spec := "fnExactWitnessHeld", unfollowed := true, recurses := true, named := ["encoding/binary.BigEndian"], apart := false }
def FnExactWitnessHeldSaid : Prop := fnExactWitnessHeldRow.holds Try.pinned (OpenSpec.ofChange fnExactWitnessHeldSpec)

/-- ITS FALSE NEIGHBOUR: 'it returns false'. Refute it at one input. -/
def fnExactWitnessHeldWrong : ChangeSpec := { name := "fnExactWitnessHeld", fn := fun _ => fun
  | [d] => { results := [.lit (.bool false)], args := [d] }
  | _ => none }
def FnExactWitnessHeldWrongFalsely : Prop := fnExactWitnessHeldRow.holds Try.pinned (OpenSpec.ofChange fnExactWitnessHeldWrong)

/-- 'laws.FnExactRecordMend': WHATEVER THE INPUT: true; the input reads as it did. -/
def fnExactRecordMendSpec : ChangeSpec := { name := "fnExactRecordMend", fn := fun _ => fun
  | [d] => { results := [.lit (.bool true)], args := [d] }
  | _ => none }
def fnExactRecordMendRow : OpenClaim := { program := "ytcgfgodpiobcfaa", sum := "a5a024c23505e6778d566a224c63152d19dd72dace90ca45d060e5fcb1c7d168", func := "loop.example/belfry/laws.FnExactRecordMend", spec := "fnExactRecordMend", unfollowed := true, recurses := true, named := ["encoding/binary.BigEndian"], apart := false }
def FnExactRecordMendSaid : Prop := fnExactRecordMendRow.holds Try.pinned (OpenSpec.ofChange fnExactRecordMendSpec)

/-- ITS FALSE NEIGHBOUR: 'it returns false'. Refute it at one input. -/
def fnExactRecordMendWrong : ChangeSpec := { name := "fnExactRecordMend", fn := fun _ => fun
  | [d] => { results := [.lit (.bool false)], args := [d] }
  | _ => none }
def FnExactRecordMendWrongFalsely : Prop := fnExactRecordMendRow.holds Try.pinned (OpenSpec.ofChange fnExactRecordMendWrong)

/-- 'laws.FnExactRecordRaws': WHATEVER THE INPUT: true; the input reads as it did. -/
def fnExactRecordRawsSpec : ChangeSpec := { name := "fnExactRecordRaws", fn := fun _ => fun
  | [d1, d2, d3] => { results := [.lit (.bool true)], args := [d1, d2, d3] }
  | _ => none }
def fnExactRecordRawsRow : OpenClaim := { program := "ytcgfgodpiobcfaa", sum := "a5a024c23505e6778d566a224c63152d19dd72dace90ca45d060e5fcb1c7d168", func := "loop.example/belfry/laws.FnExactRecordRaws", spec := "fnExactRecordRaws", unfollowed := true, recurses := true, named := ["encoding/binary.BigEndian"], apart := false }
def FnExactRecordRawsSaid : Prop := fnExactRecordRawsRow.holds Try.pinned (OpenSpec.ofChange fnExactRecordRawsSpec)

/-- ITS FALSE NEIGHBOUR: 'it returns false'. Refute it at one input. -/
def fnExactRecordRawsWrong : ChangeSpec := { name := "fnExactRecordRaws", fn := fun _ => fun
  | [d1, d2, d3] => { results := [.lit (.bool false)], args := [d1, d2, d3] }
  | _ => none }
def FnExactRecordRawsWrongFalsely : Prop := fnExactRecordRawsRow.holds Try.pinned (OpenSpec.ofChange fnExactRecordRawsWrong)

/-- 'laws.FnExactWitnessOk': WHATEVER THE INPUT: true; the input reads as it did. -/
def fnExactWitnessOkSpec : ChangeSpec := { name := "fnExactWitnessOk", fn := fun _ => fun
  | [d] => { results := [.lit (.bool true)], args := [d] }
  | _ => none }
def fnExactWitnessOkRow : OpenClaim := { program := "ytcgfgodpiobcfaa", sum := "a5a024c23505e6778d566a224c63152d19dd72dace90ca45d060e5fcb1c7d168", func := "loop.example/belfry/laws.FnExactWitnessOk", spec := "fnExactWitnessOk", unfollowed := true, recurses := true, named := ["encoding/binary.BigEndian"], apart := false }
def FnExactWitnessOkSaid : Prop := fnExactWitnessOkRow.holds Try.pinned (OpenSpec.ofChange fnExactWitnessOkSpec)

/-- ITS FALSE NEIGHBOUR: 'it returns false'. Refute it at one input. -/
def fnExactWitnessOkWrong : ChangeSpec := { name := "fnExactWitnessOk", fn := fun _ => fun
  | [d] => { results := [.lit (.bool false)], args := [d] }
  | _ => none }
def FnExactWitnessOkWrongFalsely : Prop := fnExactWitnessOkRow.holds Try.pinned (OpenSpec.ofChange fnExactWitnessOkWrong)

/-- 'laws.FnRecordTop': WHATEVER THE INPUT: true; the input reads as it did. -/
def fnRecordTopSpec : ChangeSpec := { name := "fnRecordTop", fn := fun _ => fun
  | [d] => { results := [.lit (.bool true)], args := [d] }
  | _ => none }
def fnRecordTopRow : OpenClaim := { program := "ytcgfgodpiobcfaa", sum := "a5a024c23505e6778d566a224c63152d19dd72dace90ca45d060e5fcb1c7d168", func := "loop.example/belfry/laws.FnRecordTop", spec := "fnRecordTop", unfollowed := true, recurses := true, named := ["encoding/binary.BigEndian"], apart := false }
def FnRecordTopSaid : Prop := fnRecordTopRow.holds Try.pinned (OpenSpec.ofChange fnRecordTopSpec)

/-- ITS FALSE NEIGHBOUR: 'it returns false'. Refute it at one input. -/
def fnRecordTopWrong : ChangeSpec := { name := "fnRecordTop", fn := fun _ => fun
  | [d] => { results := [.lit (.bool false)], args := [d] }
  | _ => none }
def FnRecordTopWrongFalsely : Prop := fnRecordTopRow.holds Try.pinned (OpenSpec.ofChange fnRecordTopWrong)

/-- 'laws.FnRecordMend': WHATEVER THE INPUT: true; the input reads as it did. -/
def fnRecordMendSpec : ChangeSpec := { name := "fnRecordMend", fn := fun _ => fun
  | [d] => { results := [.lit (.bool true)], args := [d] }
  | _ => none }
def fnRecordMendRow : OpenClaim := { program := "ytcgfgodpiobcfaa", sum := "a5a024c23505e6778d566a224c63152d19dd72dace90ca45d060e5fcb1c7d168", func := "loop.example/belfry/laws.FnRecordMend", spec := "fnRecordMend", unfollowed := true, recurses := true, named := ["encoding/binary.BigEndian"], apart := false }
def FnRecordMendSaid : Prop := fnRecordMendRow.holds Try.pinned (OpenSpec.ofChange fnRecordMendSpec)

/-- ITS FALSE NEIGHBOUR: 'it returns false'. Refute it at one input. -/
def fnRecordMendWrong : ChangeSpec := { name := "fnRecordMend", fn := fun _ => fun
  | [d] => { results := [.lit (.bool false)], args := [d] }
  | _ => none }
def FnRecordMendWrongFalsely : Prop := fnRecordMendRow.holds Try.pinned (OpenSpec.ofChange fnRecordMendWrong)

/-- 'laws.FnRecordTorn': WHATEVER THE INPUT: true; the input reads as it did. -/
def fnRecordTornSpec : ChangeSpec := { name := "fnRecordTorn", fn := fun _ => fun
  | [d] => { results := [.lit (.bool true)], args := [d] }
  | _ => none }
def fnRecordTornRow : OpenClaim := { program := "ytcgfgodpiobcfaa", sum := "a5a024c23505e6778d566a224c63152d19dd72dace90ca45d060e5fcb1c7d168", func := "loop.example/belfry/laws.FnRecordTorn", spec := "fnRecordTorn", unfollowed := true, recurses := true, named := ["encoding/binary.BigEndian"], apart := false }
def FnRecordTornSaid : Prop := fnRecordTornRow.holds Try.pinned (OpenSpec.ofChange fnRecordTornSpec)

/-- ITS FALSE NEIGHBOUR: 'it returns false'. Refute it at one input. -/
def fnRecordTornWrong : ChangeSpec := { name := "fnRecordTorn", fn := fun _ => fun
  | [d] => { results := [.lit (.bool false)], args := [d] }
  | _ => none }
def FnRecordTornWrongFalsely : Prop := fnRecordTornRow.holds Try.pinned (OpenSpec.ofChange fnRecordTornWrong)

/- THE SECOND FORM. 'bulk': how many values and letters a reading holds, each counted each time it is reached (what is shared counts as often as it is met; a slice's spare places count too). A statement '..UptoSaid' is the law's where the arguments, and the package variables that the reading takes, are together of bulk at most 1048576: NARROWER than '..Said'. Prove '..Said' where nothing that the law and all that it calls make is longer than what came in: it says more and counts as full. Else prove '..UptoSaid'. A law counts once. -/
mutual
def uptoBulk {H : Type} : DataW H → Nat
  | .lit (.string bytes) => bytes.length + 1
  | .lit _ => 1
  | .nil => 1
  | .ptr d => uptoBulk d + 1
  | .slice elems spare => uptoBulkAll elems + uptoBulkAll spare + 1
  | .agg parts => uptoBulkAll parts + 1
  | .iface _ d => uptoBulk d + 1
  | .map entries => uptoBulkEntries entries + 1
  | .held _ => 1
def uptoBulkAll {H : Type} : List (DataW H) → Nat
  | [] => 0
  | d :: r => uptoBulk d + uptoBulkAll r
def uptoBulkEntries {H : Type} : List (Lit × DataW H) → Nat
  | [] => 0
  | x :: r => uptoBulkEntry x + uptoBulkEntries r
def uptoBulkEntry {H : Type} : Lit × DataW H → Nat
  | (.string bytes, d) => bytes.length + uptoBulk d + 1
  | (_, d) => uptoBulk d + 1
 end
def uptoSmall : (H : Type) → List (DataW H) → Bool := fun _ ds => decide (uptoBulkAll ds ≤ 1048576)
def OpenSpec.upto (s : _root_.Go.ChangeSpec) : _root_.Go.OpenSpec := { _root_.Go.OpenSpec.ofChange s with cond := some uptoSmall }

/-- 'laws.FnExactSlotSum', WHERE WHAT IT READS IS OF BULK AT MOST 1048576: true; the input reads as it did. -/
def fnExactSlotSumUptoRow : OpenClaim := { program := "ytcgfgodpiobcfaa", sum := "a5a024c23505e6778d566a224c63152d19dd72dace90ca45d060e5fcb1c7d168", func := "loop.example/belfry/laws.FnExactSlotSum", spec := "fnExactSlotSum", unfollowed := true, recurses := true, named := ["encoding/binary.BigEndian"], apart := false, narrowed := true }
def FnExactSlotSumUptoSaid : Prop := fnExactSlotSumUptoRow.holds Try.pinned (OpenSpec.upto fnExactSlotSumSpec)

/-- 'laws.FnExactDiskWrite', WHERE WHAT IT READS IS OF BULK AT MOST 1048576: true; the input reads as it did. -/
def fnExactDiskWriteUptoRow : OpenClaim := { program := "ytcgfgodpiobcfaa", sum := "a5a024c23505e6778d566a224c63152d19dd72dace90ca45d060e5fcb1c7d168", func := "loop.example/belfry/laws.FnExactDiskWrite", spec := "fnExactDiskWrite", apart := false, narrowed := true }
def FnExactDiskWriteUptoSaid : Prop := fnExactDiskWriteUptoRow.holds Try.pinned (OpenSpec.upto fnExactDiskWriteSpec)

/-- 'laws.FnExactSlotOk', WHERE WHAT IT READS IS OF BULK AT MOST 1048576: true; the input reads as it did. -/
def fnExactSlotOkUptoRow : OpenClaim := { program := "ytcgfgodpiobcfaa", sum := "a5a024c23505e6778d566a224c63152d19dd72dace90ca45d060e5fcb1c7d168", func := "loop.example/belfry/laws.FnExactSlotOk", spec := "fnExactSlotOk", unfollowed := true, recurses := true, named := ["encoding/binary.BigEndian"], apart := false, narrowed := true }
def FnExactSlotOkUptoSaid : Prop := fnExactSlotOkUptoRow.holds Try.pinned (OpenSpec.upto fnExactSlotOkSpec)

/-- 'laws.FnExactRecordCut', WHERE WHAT IT READS IS OF BULK AT MOST 1048576: true; the input reads as it did. -/
def fnExactRecordCutUptoRow : OpenClaim := { program := "ytcgfgodpiobcfaa", sum := "a5a024c23505e6778d566a224c63152d19dd72dace90ca45d060e5fcb1c7d168", func := "loop.example/belfry/laws.FnExactRecordCut", spec := "fnExactRecordCut", apart := false, narrowed := true }
def FnExactRecordCutUptoSaid : Prop := fnExactRecordCutUptoRow.holds Try.pinned (OpenSpec.upto fnExactRecordCutSpec)

/-- 'laws.FnExactRecordRead', WHERE WHAT IT READS IS OF BULK AT MOST 1048576: true; the input reads as it did. -/
def fnExactRecordReadUptoRow : OpenClaim := { program := "ytcgfgodpiobcfaa", sum := "a5a024c23505e6778d566a224c63152d19dd72dace90ca45d060e5fcb1c7d168", func := "loop.example/belfry/laws.FnExactRecordRead", spec := "fnExactRecordRead", unfollowed := true, recurses := true, named := ["encoding/binary.BigEndian"], apart := false, narrowed := true }
def FnExactRecordReadUptoSaid : Prop := fnExactRecordReadUptoRow.holds Try.pinned (OpenSpec.upto fnExactRecordReadSpec)

/-- 'laws.FnSlotSums', WHERE WHAT IT READS IS OF BULK AT MOST 1048576: true; the input reads as it did. -/
def fnSlotSumsUptoRow : OpenClaim := { program := "ytcgfgodpiobcfaa", sum := "a5a024c23505e6778d566a224c63152d19dd72dace90ca45d060e5fcb1c7d168", func := "loop.example/belfry/laws.FnSlotSums", spec := "fnSlotSums", unfollowed := true, recurses := true, named := ["encoding/binary.BigEndian"], apart := false, narrowed := true }
def FnSlotSumsUptoSaid : Prop := fnSlotSumsUptoRow.holds Try.pinned (OpenSpec.upto fnSlotSumsSpec)

/-- 'laws.FnExactWitnessHeld', WHERE WHAT IT READS IS OF BULK AT MOST 1048576: true; the input reads as it did. -/
def fnExactWitnessHeldUptoRow : OpenClaim := { program := "ytcgfgodpiobcfaa", sum := "a5a024c23505e6778d566a224c63152d19dd72dace90ca45d060e5fcb1c7d168", func := "loop.example/belfry/laws.FnExactWitnessHeld", spec := "fnExactWitnessHeld", unfollowed := true, recurses := true, named := ["encoding/binary.BigEndian"], apart := false, narrowed := true }
def FnExactWitnessHeldUptoSaid : Prop := fnExactWitnessHeldUptoRow.holds Try.pinned (OpenSpec.upto fnExactWitnessHeldSpec)

/-- 'laws.FnExactRecordMend', WHERE WHAT IT READS IS OF BULK AT MOST 1048576: true; the input reads as it did. -/
def fnExactRecordMendUptoRow : OpenClaim := { program := "ytcgfgodpiobcfaa", sum := "a5a024c23505e6778d566a224c63152d19dd72dace90ca45d060e5fcb1c7d168", func := "loop.example/belfry/laws.FnExactRecordMend", spec := "fnExactRecordMend", unfollowed := true, recurses := true, named := ["encoding/binary.BigEndian"], apart := false, narrowed := true }
def FnExactRecordMendUptoSaid : Prop := fnExactRecordMendUptoRow.holds Try.pinned (OpenSpec.upto fnExactRecordMendSpec)

/-- 'laws.FnExactRecordRaws', WHERE WHAT IT READS IS OF BULK AT MOST 1048576: true; the input reads as it did. -/
def fnExactRecordRawsUptoRow : OpenClaim := { program := "ytcgfgodpiobcfaa", sum := "a5a024c23505e6778d566a224c63152d19dd72dace90ca45d060e5fcb1c7d168", func := "loop.example/belfry/laws.FnExactRecordRaws", spec := "fnExactRecordRaws", unfollowed := true, recurses := true, named := ["encoding/binary.BigEndian"], apart := false, narrowed := true }
def FnExactRecordRawsUptoSaid : Prop := fnExactRecordRawsUptoRow.holds Try.pinned (OpenSpec.upto fnExactRecordRawsSpec)

/-- 'laws.FnExactWitnessOk', WHERE WHAT IT READS IS OF BULK AT MOST 1048576: true; the input reads as it did. -/
def fnExactWitnessOkUptoRow : OpenClaim := { program := "ytcgfgodpiobcfaa", sum := "a5a024c23505e6778d566a224c63152d19dd72dace90ca45d060e5fcb1c7d168", func := "loop.example/belfry/laws.FnExactWitnessOk", spec := "fnExactWitnessOk", unfollowed := true, recurses := true, named := ["encoding/binary.BigEndian"], apart := false, narrowed := true }
def FnExactWitnessOkUptoSaid : Prop := fnExactWitnessOkUptoRow.holds Try.pinned (OpenSpec.upto fnExactWitnessOkSpec)

/-- 'laws.FnRecordTop', WHERE WHAT IT READS IS OF BULK AT MOST 1048576: true; the input reads as it did. -/
def fnRecordTopUptoRow : OpenClaim := { program := "ytcgfgodpiobcfaa", sum := "a5a024c23505e6778d566a224c63152d19dd72dace90ca45d060e5fcb1c7d168", func := "loop.example/belfry/laws.FnRecordTop", spec := "fnRecordTop", unfollowed := true, recurses := true, named := ["encoding/binary.BigEndian"], apart := false, narrowed := true }
def FnRecordTopUptoSaid : Prop := fnRecordTopUptoRow.holds Try.pinned (OpenSpec.upto fnRecordTopSpec)

/-- 'laws.FnRecordMend', WHERE WHAT IT READS IS OF BULK AT MOST 1048576: true; the input reads as it did. -/
def fnRecordMendUptoRow : OpenClaim := { program := "ytcgfgodpiobcfaa", sum := "a5a024c23505e6778d566a224c63152d19dd72dace90ca45d060e5fcb1c7d168", func := "loop.example/belfry/laws.FnRecordMend", spec := "fnRecordMend", unfollowed := true, recurses := true, named := ["encoding/binary.BigEndian"], apart := false, narrowed := true }
def FnRecordMendUptoSaid : Prop := fnRecordMendUptoRow.holds Try.pinned (OpenSpec.upto fnRecordMendSpec)

/-- 'laws.FnRecordTorn', WHERE WHAT IT READS IS OF BULK AT MOST 1048576: true; the input reads as it did. -/
def fnRecordTornUptoRow : OpenClaim := { program := "ytcgfgodpiobcfaa", sum := "a5a024c23505e6778d566a224c63152d19dd72dace90ca45d060e5fcb1c7d168", func := "loop.example/belfry/laws.FnRecordTorn", spec := "fnRecordTorn", unfollowed := true, recurses := true, named := ["encoding/binary.BigEndian"], apart := false, narrowed := true }
def FnRecordTornUptoSaid : Prop := fnRecordTornUptoRow.holds Try.pinned (OpenSpec.upto fnRecordTornSpec)

end Rows
end Go.Proofs.Ytcgfgodpiobcfaa
