/- The plain statement of the law FnExactClientOk, over numbers and lists; and that what reads as data of a type has cells of the kind of that type. No condition. -/
import Derived.Test.YtpdcdajccfccbaaQD
import Derived.Test.YtpdcdajccfccbaaWOpen
import Derived.KernelRfl
namespace Go.Proofs.Ytpdcdajccfccbaa.Q
open Go.RowKit Go.Proofs.YtpdcdajccfccbaaW.PrintWords Go.Proofs.YtpdcdajccfccbaaW.PrintLast
set_option linter.unusedVariables false
/-- The one plain statement of this law. -/
def laws_FnExactClientOk.Plain : Prop := ∀ (a0_0 : Int) (a0_1 : Int) (a0_2 : Int) (a0_3 : Int) (a0_4 : Int) (a0_5 : Int) (a0_6 : Int) (a0_7 : Int) (a0_8 : Int) (l0_9 : List Int) (a0_10 : Int) (a0_11 : Int) (a0_12 : Int) (a0_13 : Int) (a0_14 : Int), ((Lit.int .i64 a0_0).wf = true ∧ (Lit.int .i64 a0_1).wf = true ∧ (Lit.int .i64 a0_2).wf = true ∧ (Lit.int .i64 a0_3).wf = true ∧ ((Lit.int .i64 a0_4).wf = true ∧ ((Lit.int .u64 a0_5).wf = true ∧ (Lit.int .u64 a0_6).wf = true ∧ (Lit.int .u64 a0_7).wf = true ∧ (Lit.int .u64 a0_8).wf = true)) ∧ (l0_9.length ≤ maxLen ∧ ∀ y ∈ l0_9, (Lit.int .i64 y).wf = true) ∧ ((Lit.int .i64 a0_10).wf = true ∧ ((Lit.int .u64 a0_11).wf = true ∧ (Lit.int .u64 a0_12).wf = true ∧ (Lit.int .u64 a0_13).wf = true ∧ (Lit.int .u64 a0_14).wf = true))) → ∃ k, laws_FnExactClientOk.f k a0_0 a0_1 a0_2 a0_3 a0_4 a0_5 a0_6 a0_7 a0_8 l0_9 a0_10 a0_11 a0_12 a0_13 a0_14 = some true
end Go.Proofs.Ytpdcdajccfccbaa.Q
