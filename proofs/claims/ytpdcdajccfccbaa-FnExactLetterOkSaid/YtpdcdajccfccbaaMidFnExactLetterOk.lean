/- The plain statement of the law FnExactLetterOk, over numbers and lists; and that what reads as data of a type has cells of the kind of that type. No condition. -/
import Derived.Test.YtpdcdajccfccbaaPFnExactLetterOkx1
import Derived.Test.YtpdcdajccfccbaaWOpen
import Derived.KernelRfl
namespace Go.Proofs.Ytpdcdajccfccbaa.PFnExactLetterOk
open Go.RowKit Go.Proofs.YtpdcdajccfccbaaW.PrintWords Go.Proofs.YtpdcdajccfccbaaW.PrintLast
set_option linter.unusedVariables false
/-- The one plain statement of this law. -/
def laws_FnExactLetterOk.Pure : Prop := ∀ (a0_0 : Int) (a0_1 : Int) (a0_2 : ByteArray), ((Lit.int .i64 a0_0).wf = true ∧ (Lit.int .i64 a0_1).wf = true ∧ a0_2.size ≤ maxLen) → laws_FnExactLetterOk.f a0_0 a0_1 a0_2 = some true
end Go.Proofs.Ytpdcdajccfccbaa.PFnExactLetterOk
