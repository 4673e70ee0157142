/- The law FnClashGrowth of the given program returns true at every input that reads as data of its parameters' types, and leaves its arguments as they were. No condition besides. -/
import Derived.Test.YtcgkhljolflenaaRows
import Derived.Test.YtcgkhljolflenaaFHClashGrowth
import Derived.Test.YtcgkhljolflenaaVOp
import Derived.Test.YtcgkhljolflenaaFJClashGrowth
import Derived.Test.YtcgkhljolflenaaFKClashGrowth
import Derived.WalkKit
import Derived.ProofKit
import Derived.OpenShut
import Derived.ShutString
import Derived.ChangeOld
import Derived.Below
import Derived.SizedLaws
import Derived.Carry
namespace Go.Proofs.YtcgkhljolflenaaW.V
open Go Go.Proofs
set_option maxRecDepth 100000
set_option linter.unusedVariables false
theorem oFnClashGrowth_p0 : OpensC Try.prog 22 (cList cU8) (fun x => (x.length ≤ maxLen ∧ ∀ y0 ∈ x, True)) := (op_list Try.underlying22 (by kernel_rfl) (by decide) (op_u8 Try.underlying5))
end Go.Proofs.YtcgkhljolflenaaW.V
namespace Go.Proofs.Ytcgkhljolflenaa.fnClashGrowth
open Go.ChangeShapes Go.WideShapes Go.ChangeAt Go.RowKit Go.Proofs.YtcgkhljolflenaaW
open Go.ChangeMaps (open_string shut_string)
set_option linter.unusedVariables false
theorem own : ownKnob Try.prog.godebug = none := by kernel_rfl
theorem laidOut : laidOutB Try.prog = true := by kernel_rfl
set_option maxRecDepth 100000 in
theorem lifted (os : Os) (started : os.Started) (H : Type) (enc : TypeId × Value → H) :
    ReturnsInHanded {} Try.checked os 6 .any (Rows.fnClashGrowthSpec.pre6 enc Try.prog Try.f6 Rows.fnClashGrowthRow.domain false) (Rows.fnClashGrowthSpec.post enc Try.prog Try.f6 false true false false) := by
  refine returnsInHanded_of_change_sized (C := Try.checked) own started (by kernel_rfl) Try.func6
    (ChangeSpec.witness6 (enc := enc) (C := Try.checked) false ⟨#[], #[.slice none 0 0], []⟩ 8 (by kernel_rfl) (by kernel_rfl) (by kernel_rfl) (by kernel_rfl)) ?_
  intro W base args ds gs before hval0 hW hcnd hsz0 _
  have hval : ∀ (j : Nat) t v, Try.f6.params[j]? = some t → args[j]? = some v → Value.okWide Try.prog W .any base t v := hval0
  have hW' := hW
  obtain ⟨p, q, hA0, hV, rfl, hfz, hnd⟩ := hW
  have hA : DataW.TrodAll enc Try.prog W 0 (fun _ => true) true Try.f6.params.toList args.toList ds p := hA0
  rw [Try.params6] at hA hval
  obtain ⟨v0, vs0, d0, ds0, p0, q0, hargs, rfl, rfl, h0, r0⟩ := trodAll_cons hA
  obtain ⟨rfl, rfl, rfl⟩ := trodAll_nil r0
  obtain rfl : args = #[v0] := by cases args; simp_all
  obtain ⟨rfl, rfl⟩ := trodVars_none hV
  have k0 := h0
  have lt0 : ∀ x ∈ p0, x.block < W.heap.size := by obtain ⟨m, hm⟩ := k0; exact DataW.trod_lt m _ _ _ hm
  obtain ⟨b0, n0, m0, rfl⟩ := okWide_slice Try.underlying22 (hval 0 22 v0 rfl rfl)
  obtain ⟨u0, hf0⟩ := h0
  obtain ⟨a0, hE0, w0⟩ := V.oFnClashGrowth_p0 _ _ _ _ _ _ _ _ _ hf0
  clear hA0 hval0 hsz0
  refine (V.law_calls (V.f_FnClashGrowth a0 w0) (.cons (V.er_slice hE0) .nil)).mono fun e W' ⟨he, bel⟩ => ?_
  subst he
  exact ⟨_, rfl, _, _, _, [], _, [], hW', trodAll_mk1 (shut_bool Try.underlying4 _), (trodAll_cons_mk (Below.trod laidOut (by kernel_rfl) (of_decide_eq_true (by kernel_rfl)) k0 bel lt0) trodAll_mk0), rfl, bel.frame _, fun h => by cases h⟩
theorem over : Rows.fnClashGrowthRow.holds Try.pinned (OpenSpec.ofChange Rows.fnClashGrowthSpec) :=
  OpenClaim.holds_of_wide 6 Try.f6 rfl rfl rfl rfl rfl rfl rfl ⟨rfl, rfl, rfl, rfl, rfl⟩ rfl rfl rfl rfl rfl named Try.func6 facts inst wrapper
    (fun os started H enc _ => lifted os started H enc)
theorem proved : Rows.FnClashGrowthSaid := over
#print axioms proved
end Go.Proofs.Ytcgkhljolflenaa.fnClashGrowth
namespace Go.Proofs.Ytcgkhljolflenaa
/-- The row, under a short name, for the claim. -/
theorem fnClashGrowth_holds : Rows.FnClashGrowthSaid := fnClashGrowth.proved
end Go.Proofs.Ytcgkhljolflenaa
