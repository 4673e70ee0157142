/- The law FnClashTop of the given program returns true at every input that reads as data of its parameters' types, and leaves its arguments as they were. No condition besides. -/
import Derived.Test.YtcgkhljolflenaaGreatRows
import Derived.Test.YtcgkhljolflenaaGreatFHClashTop
import Derived.Test.YtcgkhljolflenaaGreatVOp
import Derived.Test.YtcgkhljolflenaaGreatFJClashTop
import Derived.Test.YtcgkhljolflenaaGreatFKClashTop
import Derived.WalkKit
import Derived.ProofKit
import Derived.OpenShut
import Derived.ShutString
import Derived.ChangeOld
import Derived.Below
import Derived.SizedLaws
import Derived.Carry
namespace Go.Proofs.YtcgkhljolflenaaGreatW.V
open Go Go.Proofs
set_option maxRecDepth 100000
set_option linter.unusedVariables false
theorem oFnClashTop_p0 : OpensC Tryz.prog 22 (cList cU8) (fun x => (x.length ≤ maxLen ∧ ∀ y0 ∈ x, True)) := (op_list Tryz.underlying22 (by kernel_rfl) (by decide) (op_u8 Tryz.underlying5))
end Go.Proofs.YtcgkhljolflenaaGreatW.V
namespace Go.Proofs.YtcgkhljolflenaaGreat.fnClashTop
open Go.ChangeShapes Go.WideShapes Go.ChangeAt Go.RowKit Go.Proofs.YtcgkhljolflenaaGreatW
open Go.ChangeMaps (open_string shut_string)
set_option linter.unusedVariables false
theorem own : ownKnob Tryz.prog.godebug = none := by kernel_rfl
theorem laidOut : laidOutB Tryz.prog = true := by kernel_rfl
set_option maxRecDepth 100000 in
theorem lifted (os : Os) (started : os.Started) (H : Type) (enc : TypeId × Value → H) :
    ReturnsInHanded {} Tryz.checked os 3 .any (Rows.fnClashTopSpec.pre6 enc Tryz.prog Tryz.f3 Rows.fnClashTopRow.domain false) (Rows.fnClashTopSpec.post enc Tryz.prog Tryz.f3 false true false false) := by
  refine returnsInHanded_of_change_sized (C := Tryz.checked) own started (by kernel_rfl) Tryz.func3
    (ChangeSpec.witness6 (enc := enc) (C := Tryz.checked) false ⟨#[], #[.slice none 0 0], []⟩ 8 (by kernel_rfl) (by kernel_rfl) (by kernel_rfl) (by kernel_rfl)) ?_
  intro W base args ds gs before hval0 hW hcnd hsz0 _
  have hval : ∀ (j : Nat) t v, Tryz.f3.params[j]? = some t → args[j]? = some v → Value.okWide Tryz.prog W .any base t v := hval0
  have hW' := hW
  obtain ⟨p, q, hA0, hV, rfl, hfz, hnd⟩ := hW
  have hA : DataW.TrodAll enc Tryz.prog W 0 (fun _ => true) true Tryz.f3.params.toList args.toList ds p := hA0
  rw [Tryz.params3] at hA hval
  obtain ⟨v0, vs0, d0, ds0, p0, q0, hargs, rfl, rfl, h0, r0⟩ := trodAll_cons hA
  obtain ⟨rfl, rfl, rfl⟩ := trodAll_nil r0
  obtain rfl : args = #[v0] := by cases args; simp_all
  obtain ⟨rfl, rfl⟩ := trodVars_none hV
  have k0 := h0
  have lt0 : ∀ x ∈ p0, x.block < W.heap.size := by obtain ⟨m, hm⟩ := k0; exact DataW.trod_lt m _ _ _ hm
  obtain ⟨b0, n0, m0, rfl⟩ := okWide_slice Tryz.underlying22 (hval 0 22 v0 rfl rfl)
  obtain ⟨u0, hf0⟩ := h0
  obtain ⟨a0, hE0, w0⟩ := V.oFnClashTop_p0 _ _ _ _ _ _ _ _ _ hf0
  clear hA0 hval0 hsz0
  refine (V.law_calls (V.f_FnClashTop a0 w0) (.cons (V.er_slice hE0) .nil)).mono fun e W' ⟨he, bel⟩ => ?_
  subst he
  exact ⟨_, rfl, _, _, _, [], _, [], hW', trodAll_mk1 (shut_bool Tryz.underlying4 _), (trodAll_cons_mk (Below.trod laidOut (by kernel_rfl) (of_decide_eq_true (by kernel_rfl)) k0 bel lt0) trodAll_mk0), rfl, bel.frame _, fun h => by cases h⟩
theorem over : Rows.fnClashTopRow.holds Tryz.pinned (OpenSpec.ofChange Rows.fnClashTopSpec) :=
  OpenClaim.holds_of_wide 3 Tryz.f3 rfl rfl rfl rfl rfl rfl rfl ⟨rfl, rfl, rfl, rfl, rfl⟩ rfl rfl rfl rfl rfl named Tryz.func3 facts inst wrapper
    (fun os started H enc _ => lifted os started H enc)
theorem proved : Rows.FnClashTopSaid := over
#print axioms proved
end Go.Proofs.YtcgkhljolflenaaGreat.fnClashTop
namespace Go.Proofs.YtcgkhljolflenaaGreat
/-- The row, under a short name, for the claim. -/
theorem fnClashTop_holds : Rows.FnClashTopSaid := fnClashTop.proved
end Go.Proofs.YtcgkhljolflenaaGreat
