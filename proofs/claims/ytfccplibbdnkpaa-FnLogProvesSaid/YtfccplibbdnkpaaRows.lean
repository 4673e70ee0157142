/-
  No cell of these rows narrows 'for every input' (looked for: loops, veiled, ifaces, maps, wideKeys, modest, calm, conditions, laid).
  DERIVED. THE GIVEN ROWS OF THIS SEAT. 3 by the template 'for every input the law returns true; each argument reads behind the call as it read before'; 0 by the template 'total and deterministic' (their statements: YtfccplibbdnkpaaTotals.lean).
  GIVEN WITH THE SEED: the statements are not yours to turn. If you find one false, say at which input.
  Laid BY PROGRAM, IN A SANDBOX (cutbox-rows.mjs): the forced cells as the released guide's own fill.sh prints them over the translation 420f6ad2927e712d… (all of the seat's roots in one cut). By AI agents, Wed Nov 11 2026. No macro, syntax, notation, axiom, sorry.
-/
import Derived.Test.YtfccplibbdnkpaaChecked
import GoSem.Claim
import GoSem.ClaimJoined
import GoSem.ClaimMapViews
import Derived.JoinedTies
import Derived.KernelRfl
namespace Go.Proofs.Ytfccplibbdnkpaa
/- THE CELL 'sum', in the pinned program and in every row, IS THE sha256 OF THE DUMP (.gsa) THAT YtfccplibbdnkpaaProg.lean LOADS. Nothing in Lean hashes anything: it is a label: what it is worth is what the hold of that sum in a sandbox is worth. -/
noncomputable def Try.pinned : Pinned := { name := "ytfccplibbdnkpaa", sum := "420f6ad2927e712d19dde03db53e4c35f9afdcb00815a59a3dc86a5725725bd2", checked := Try.checked }
namespace Rows
def none {H : Type} : Left H := { results := [], args := [] }

/-- 'laws.FnExactLogAnswer': WHATEVER THE INPUT: true; the input reads as it did. -/
def fnExactLogAnswerSpec : ChangeSpec := { name := "fnExactLogAnswer", fn := fun _ => fun
  | [d1, d2] => { results := [.lit (.bool true)], args := [d1, d2] }
  | _ => none }
def fnExactLogAnswerRow : OpenClaim := { program := "ytfccplibbdnkpaa", sum := "420f6ad2927e712d19dde03db53e4c35f9afdcb00815a59a3dc86a5725725bd2", func := "loop.example/belfry/laws.FnExactLogAnswer", spec := "fnExactLogAnswer", unfollowed := true, recurses := true, named := ["encoding/binary.BigEndian"], plainKeys := false, apart := false }
def FnExactLogAnswerSaid : Prop := fnExactLogAnswerRow.holds Try.pinned (OpenSpec.ofChange fnExactLogAnswerSpec)

/-- ITS FALSE NEIGHBOUR: 'it returns false'. Refute it at one input. -/
def fnExactLogAnswerWrong : ChangeSpec := { name := "fnExactLogAnswer", fn := fun _ => fun
  | [d1, d2] => { results := [.lit (.bool false)], args := [d1, d2] }
  | _ => none }
def FnExactLogAnswerWrongFalsely : Prop := fnExactLogAnswerRow.holds Try.pinned (OpenSpec.ofChange fnExactLogAnswerWrong)

/-- 'laws.FnLogLater': WHATEVER THE INPUT: true; the input reads as it did. -/
def fnLogLaterSpec : ChangeSpec := { name := "fnLogLater", fn := fun _ => fun
  | [d] => { results := [.lit (.bool true)], args := [d] }
  | _ => none }
def fnLogLaterRow : OpenClaim := { program := "ytfccplibbdnkpaa", sum := "420f6ad2927e712d19dde03db53e4c35f9afdcb00815a59a3dc86a5725725bd2", func := "loop.example/belfry/laws.FnLogLater", spec := "fnLogLater", unfollowed := true, recurses := true, named := ["encoding/binary.BigEndian"], plainKeys := false, apart := false }
def FnLogLaterSaid : Prop := fnLogLaterRow.holds Try.pinned (OpenSpec.ofChange fnLogLaterSpec)

/-- ITS FALSE NEIGHBOUR: 'it returns false'. Refute it at one input. -/
def fnLogLaterWrong : ChangeSpec := { name := "fnLogLater", fn := fun _ => fun
  | [d] => { results := [.lit (.bool false)], args := [d] }
  | _ => none }
def FnLogLaterWrongFalsely : Prop := fnLogLaterRow.holds Try.pinned (OpenSpec.ofChange fnLogLaterWrong)

/-- 'laws.FnLogProves': WHATEVER THE INPUT: true; the input reads as it did. -/
def fnLogProvesSpec : ChangeSpec := { name := "fnLogProves", fn := fun _ => fun
  | [d] => { results := [.lit (.bool true)], args := [d] }
  | _ => none }
def fnLogProvesRow : OpenClaim := { program := "ytfccplibbdnkpaa", sum := "420f6ad2927e712d19dde03db53e4c35f9afdcb00815a59a3dc86a5725725bd2", func := "loop.example/belfry/laws.FnLogProves", spec := "fnLogProves", unfollowed := true, recurses := true, named := ["encoding/binary.BigEndian"], plainKeys := false, apart := false }
def FnLogProvesSaid : Prop := fnLogProvesRow.holds Try.pinned (OpenSpec.ofChange fnLogProvesSpec)

/-- ITS FALSE NEIGHBOUR: 'it returns false'. Refute it at one input. -/
def fnLogProvesWrong : ChangeSpec := { name := "fnLogProves", fn := fun _ => fun
  | [d] => { results := [.lit (.bool false)], args := [d] }
  | _ => none }
def FnLogProvesWrongFalsely : Prop := fnLogProvesRow.holds Try.pinned (OpenSpec.ofChange fnLogProvesWrong)

/- THE SECOND FORM. 'bulk': how many values and letters a reading holds, each counted each time it is reached (what is shared counts as often as it is met; a slice's spare places count too). A statement '..UptoSaid' is the law's where the arguments, and the package variables that the reading takes, are together of bulk at most 1048576: NARROWER than '..Said'. Prove '..Said' where nothing that the law and all that it calls make is longer than what came in: it says more and counts as full. Else prove '..UptoSaid'. A law counts once. -/
mutual
def uptoBulk {H : Type} : DataW H → Nat
  | .lit (.string bytes) => bytes.length + 1
  | .lit _ => 1
  | .nil => 1
  | .ptr d => uptoBulk d + 1
  | .slice elems spare => uptoBulkAll elems + uptoBulkAll spare + 1
  | .agg parts => uptoBulkAll parts + 1
  | .iface _ d => uptoBulk d + 1
  | .map entries => uptoBulkEntries entries + 1
  | .held _ => 1
def uptoBulkAll {H : Type} : List (DataW H) → Nat
  | [] => 0
  | d :: r => uptoBulk d + uptoBulkAll r
def uptoBulkEntries {H : Type} : List (Lit × DataW H) → Nat
  | [] => 0
  | x :: r => uptoBulkEntry x + uptoBulkEntries r
def uptoBulkEntry {H : Type} : Lit × DataW H → Nat
  | (.string bytes, d) => bytes.length + uptoBulk d + 1
  | (_, d) => uptoBulk d + 1
 end
def uptoSmall : (H : Type) → List (DataW H) → Bool := fun _ ds => decide (uptoBulkAll ds ≤ 1048576)
def OpenSpec.upto (s : _root_.Go.ChangeSpec) : _root_.Go.OpenSpec := { _root_.Go.OpenSpec.ofChange s with cond := some uptoSmall }

/-- 'laws.FnExactLogAnswer', WHERE WHAT IT READS IS OF BULK AT MOST 1048576: true; the input reads as it did. -/
def fnExactLogAnswerUptoRow : OpenClaim := { program := "ytfccplibbdnkpaa", sum := "420f6ad2927e712d19dde03db53e4c35f9afdcb00815a59a3dc86a5725725bd2", func := "loop.example/belfry/laws.FnExactLogAnswer", spec := "fnExactLogAnswer", unfollowed := true, recurses := true, named := ["encoding/binary.BigEndian"], plainKeys := false, apart := false, narrowed := true }
def FnExactLogAnswerUptoSaid : Prop := fnExactLogAnswerUptoRow.holds Try.pinned (OpenSpec.upto fnExactLogAnswerSpec)

/-- 'laws.FnLogLater', WHERE WHAT IT READS IS OF BULK AT MOST 1048576: true; the input reads as it did. -/
def fnLogLaterUptoRow : OpenClaim := { program := "ytfccplibbdnkpaa", sum := "420f6ad2927e712d19dde03db53e4c35f9afdcb00815a59a3dc86a5725725bd2", func := "loop.example/belfry/laws.FnLogLater", spec := "fnLogLater", unfollowed := true, recurses := true, named := ["encoding/binary.BigEndian"], plainKeys := false, apart := false, narrowed := true }
def FnLogLaterUptoSaid : Prop := fnLogLaterUptoRow.holds Try.pinned (OpenSpec.upto fnLogLaterSpec)

/-- 'laws.FnLogProves', WHERE WHAT IT READS IS OF BULK AT MOST 1048576: true; the input reads as it did. -/
def fnLogProvesUptoRow : OpenClaim := { program := "ytfccplibbdnkpaa", sum := "420f6ad2927e712d19dde03db53e4c35f9afdcb00815a59a3dc86a5725725bd2", func := "loop.example/belfry/laws.FnLogProves", spec := "fnLogProves", unfollowed := true, recurses := true, named := ["encoding/binary.BigEndian"], plainKeys := false, apart := false, narrowed := true }
def FnLogProvesUptoSaid : Prop := fnLogProvesUptoRow.holds Try.pinned (OpenSpec.upto fnLogProvesSpec)

end Rows
end Go.Proofs.Ytfccplibbdnkpaa
