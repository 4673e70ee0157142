/- The law FnExactClientNew of the given program returns true at every input that reads as data of its parameters' types, and leaves its arguments as they were. No condition besides. -/
import Derived.Test.YtpdcdajccfccbaaRows
import Derived.Test.YtpdcdajccfccbaaFB
import Derived.Test.YtpdcdajccfccbaaVLw
import Derived.Test.YtpdcdajccfccbaaFJClientNew
import Derived.Test.YtpdcdajccfccbaaFKClientNew
import Derived.WalkKit
import Derived.ProofKit
import Derived.OpenShut
import Derived.ShutString
import Derived.ChangeOld
import Derived.Below
import Derived.SizedLaws
import Derived.Carry
namespace Go.Proofs.Ytpdcdajccfccbaa.fnExactClientNew
open Go.ChangeShapes Go.WideShapes Go.ChangeAt Go.RowKit
set_option linter.unusedVariables false
theorem own : ownKnob Try.prog.godebug = none := by kernel_rfl
theorem laidOut : laidOutB Try.prog = true := by kernel_rfl
set_option maxRecDepth 100000 in
theorem lifted (os : Os) (started : os.Started) (H : Type) (enc : TypeId × Value → H) :
    ReturnsInHanded {} Try.checked os 8 .any (Rows.fnExactClientNewSpec.pre6 enc Try.prog Try.f8 Rows.fnExactClientNewRow.domain false) (Rows.fnExactClientNewSpec.post enc Try.prog Try.f8 false true false false) := by
  refine returnsInHanded_of_change_sized (C := Try.checked) own started (by kernel_rfl) Try.func8
    (ChangeSpec.witness6 (enc := enc) (C := Try.checked) false ⟨#[], #[.int .i64 0, .int .i64 0], []⟩ 8 (by kernel_rfl) (by kernel_rfl) (by kernel_rfl) (by kernel_rfl)) ?_
  intro W base args ds gs before hval0 hW hcnd hsz0 _
  have hval : ∀ (j : Nat) t v, Try.f8.params[j]? = some t → args[j]? = some v → Value.okWide Try.prog W .any base t v := hval0
  have hW' := hW
  obtain ⟨p, q, hA0, hV, rfl, hfz, hnd⟩ := hW
  have hA : DataW.TrodAll enc Try.prog W 0 (fun _ => true) true Try.f8.params.toList args.toList ds p := hA0
  rw [Try.params8] at hA hval
  obtain ⟨v0, v1, d0, d1, p0, p1, rfl, rfl, rfl, h0, h1⟩ := trodAll_two hA
  obtain ⟨rfl, rfl⟩ := trodVars_none hV
  have k0 := h0
  have k1 := h1
  obtain ⟨a, rfl, rfl, rfl, wa⟩ := open_int Try.underlying3 (hval 0 3 v0 rfl rfl) h0
  obtain ⟨b, rfl, rfl, rfl, wb⟩ := open_int Try.underlying3 (hval 1 3 v1 rfl rfl) h1
  clear hA0 hval0 hsz0
  simp only [List.append_nil] at hW'
  refine (Go.Proofs.YtpdcdajccfccbaaW.V.law_calls (Go.Proofs.YtpdcdajccfccbaaW.V.f3 a b) (.cons (Go.Proofs.YtpdcdajccfccbaaW.V.er_int .i64 a) (.cons (Go.Proofs.YtpdcdajccfccbaaW.V.er_int .i64 b) .nil))).mono fun e W' ⟨he, bel⟩ => ?_
  subst he
  exact ⟨_, rfl, _, _, _, [], _, [], hW', trodAll_mk1 (shut_bool Try.underlying4 _), trodAll_mk2 (shut_int Try.underlying3 wa) (shut_int Try.underlying3 wb), rfl, bel.frame _, fun h => by cases h⟩
theorem over : Rows.fnExactClientNewRow.holds Try.pinned (OpenSpec.ofChange Rows.fnExactClientNewSpec) :=
  OpenClaim.holds_of_wide 8 Try.f8 rfl rfl rfl rfl rfl rfl rfl ⟨rfl, rfl, rfl, rfl, rfl⟩ rfl rfl rfl rfl rfl named Try.func8 facts inst wrapper (fun os started H enc _ => lifted os started H enc)
theorem proved : Rows.FnExactClientNewSaid := over
#print axioms proved
end Go.Proofs.Ytpdcdajccfccbaa.fnExactClientNew
namespace Go.Proofs.Ytpdcdajccfccbaa
/-- The row, under a short name, for the claim. -/
theorem fnExactClientNew_holds : Rows.FnExactClientNewSaid := fnExactClientNew.proved
end Go.Proofs.Ytpdcdajccfccbaa
