/- The plain statement of the law FnExactBagFor, over numbers and lists; and that what reads as data of a type has cells of the kind of that type. No condition. -/
import Derived.Test.YtobfeplphdnhfaaQD
import Derived.Test.YtobfeplphdnhfaaWOpen
import Derived.KernelRfl
namespace Go.Proofs.Ytobfeplphdnhfaa.Q
open Go.RowKit Go.Proofs.YtobfeplphdnhfaaW.PrintWords Go.Proofs.YtobfeplphdnhfaaW.PrintLast
set_option linter.unusedVariables false
def G74 (x : S74) : Prop := (Lit.int .i64 x.f0).wf = true ∧ (Lit.int .i64 x.f1).wf = true ∧ x.f2.size ≤ maxLen
theorem opensT74 : Opens Try.prog 74 k74 G74 :=
  opens_iso (opens_struct Try.underlying74 (opensF_cons rfl (by kernel_rfl) (opens_int Try.underlying3) (opensF_cons rfl (by kernel_rfl) (opens_int Try.underlying3) (opensF_one rfl (by kernel_rfl) (opens_string Try.underlying9))))) (fun x : S74 => (x.f0, x.f1, x.f2)) (fun a => ⟨a.1, a.2.1, a.2.2⟩) (fun _ => rfl)
/-- The one plain statement of this law. -/
def laws_FnExactBagFor.Plain : Prop := ∀ (a0_0 : Int) (l0_1 : List S74) (a1 : Int), ((Lit.int .i64 a0_0).wf = true ∧ (l0_1.length ≤ maxLen ∧ ∀ y ∈ l0_1, G74 y)) → (Lit.int .i64 a1).wf = true → ∃ k, laws_FnExactBagFor.f k a0_0 l0_1 a1 = some true
end Go.Proofs.Ytobfeplphdnhfaa.Q
