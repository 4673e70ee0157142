/- The plain statement of the law FnExactWorldLast, over numbers and lists; and that what reads as data of a type has cells of the kind of that type. No condition. -/
import Derived.Test.YtpdcdajccfccbaaPFnExactWorldLastx1
import Derived.Test.YtpdcdajccfccbaaWOpen
import Derived.KernelRfl
namespace Go.Proofs.Ytpdcdajccfccbaa.PFnExactWorldLast
open Go.RowKit Go.Proofs.YtpdcdajccfccbaaW.PrintWords Go.Proofs.YtpdcdajccfccbaaW.PrintLast
set_option linter.unusedVariables false
/-- The one plain statement of this law. -/
def laws_FnExactWorldLast.Pure : Prop := ∀ (a0_0 : Int) (a0_1 : Int) (a0_2 : Int) (a0_3 : Int) (a0_4 : Int), ((Lit.int .i64 a0_0).wf = true ∧ (Lit.int .i64 a0_1).wf = true ∧ (Lit.int .i64 a0_2).wf = true ∧ (Lit.int .i64 a0_3).wf = true ∧ (Lit.int .i64 a0_4).wf = true) → laws_FnExactWorldLast.f a0_0 a0_1 a0_2 a0_3 a0_4 = some true
end Go.Proofs.Ytpdcdajccfccbaa.PFnExactWorldLast
