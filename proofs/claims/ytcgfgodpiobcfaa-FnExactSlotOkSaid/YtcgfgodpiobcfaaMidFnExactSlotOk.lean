/- The plain statement of the law FnExactSlotOk, over numbers and lists; and that what reads as data of a type has cells of the kind of that type. No condition. -/
import Derived.Test.YtcgfgodpiobcfaaQD
import Derived.Test.YtcgfgodpiobcfaaWOpen
import Derived.KernelRfl
namespace Go.Proofs.Ytcgfgodpiobcfaa.Q
open Go.RowKit Go.Proofs.YtcgfgodpiobcfaaW.PrintWords Go.Proofs.YtcgfgodpiobcfaaW.PrintLast
set_option linter.unusedVariables false
def G24 (x : S24) : Prop := (Lit.int .u64 x.f0).wf = true ∧ (Lit.int .u64 x.f1).wf = true ∧ (Lit.int .u64 x.f2).wf = true ∧ (Lit.int .u64 x.f3).wf = true
theorem opensT24 : Opens Try.prog 24 k24 G24 :=
  opens_iso (opens_struct Try.underlying24 (opensF_cons rfl (by kernel_rfl) (opens_int Try.underlying22) (opensF_cons rfl (by kernel_rfl) (opens_int Try.underlying22) (opensF_cons rfl (by kernel_rfl) (opens_int Try.underlying22) (opensF_one rfl (by kernel_rfl) (opens_int Try.underlying22)))))) (fun x : S24 => (x.f0, x.f1, x.f2, x.f3)) (fun a => ⟨a.1, a.2.1, a.2.2.1, a.2.2.2⟩) (fun _ => rfl)
/-- The one plain statement of this law. -/
def laws_FnExactSlotOk.Plain : Prop := ∀ (a0_0 : Int) (a0_1 : Int) (a0_2 : Int) (a0_3 : Int) (a0_4 : Int) (a0_5 : Int) (a0_6 : Int), ((Lit.int .u64 a0_0).wf = true ∧ (Lit.int .u64 a0_1).wf = true ∧ (Lit.int .u64 a0_2).wf = true ∧ ((Lit.int .u64 a0_3).wf = true ∧ (Lit.int .u64 a0_4).wf = true ∧ (Lit.int .u64 a0_5).wf = true ∧ (Lit.int .u64 a0_6).wf = true)) → ∃ k, laws_FnExactSlotOk.f k a0_0 a0_1 a0_2 a0_3 a0_4 a0_5 a0_6 = some true
end Go.Proofs.Ytcgfgodpiobcfaa.Q
