/- The plain statement of the law FnExactBagOk, over numbers and lists; and that what reads as data of a type has cells of the kind of that type. No condition. -/
import Derived.Test.YtpdcdajccfccbaaPFnExactBagOkx3
import Derived.Test.YtpdcdajccfccbaaWOpen
import Derived.KernelRfl
namespace Go.Proofs.Ytpdcdajccfccbaa.PFnExactBagOk
open Go.RowKit Go.Proofs.YtpdcdajccfccbaaW.PrintWords Go.Proofs.YtpdcdajccfccbaaW.PrintLast
set_option linter.unusedVariables false
def G29 (x : S29) : Prop := (Lit.int .i64 x.f0).wf = true ∧ (Lit.int .i64 x.f1).wf = true ∧ x.f2.size ≤ maxLen
theorem opensT29 : Opens Try.prog 29 k29 G29 :=
  opens_iso (opens_struct Try.underlying29 (opensF_cons rfl (by kernel_rfl) (opens_int Try.underlying3) (opensF_cons rfl (by kernel_rfl) (opens_int Try.underlying3) (opensF_one rfl (by kernel_rfl) (opens_string Try.underlying9))))) (fun x : S29 => (x.f0, x.f1, x.f2)) (fun a => ⟨a.1, a.2.1, a.2.2⟩) (fun _ => rfl)
/-- The one plain statement of this law. -/
def laws_FnExactBagOk.Pure : Prop := ∀ (a0_0 : Int) (l0_1 : List S29), ((Lit.int .i64 a0_0).wf = true ∧ (l0_1.length ≤ maxLen ∧ ∀ y ∈ l0_1, G29 y)) → ∃ k, laws_FnExactBagOk.f k a0_0 l0_1 = some true
end Go.Proofs.Ytpdcdajccfccbaa.PFnExactBagOk
