/- The law FnExactSlotOk of the given program returns true at every input that reads as data of its parameters' types, and leaves its arguments as they were. No condition besides. -/
import Derived.Test.YtcgfgodpiobcfaaRows
import Derived.Test.YtcgfgodpiobcfaaQx37
import Derived.Test.YtcgfgodpiobcfaaPureFnExactSlotOk
import Derived.WalkKit
import Derived.ProofKit
import Derived.OpenShut
import Derived.ShutString
import Derived.ChangeOld
import Derived.Below
import Derived.SizedLaws
import Derived.Carry
namespace Go.Proofs.Ytcgfgodpiobcfaa.fnExactSlotOk
open Go.ChangeShapes Go.WideShapes Go.ChangeAt Go.RowKit Go.Proofs.YtcgfgodpiobcfaaW.PrintWords Go.Proofs.Ytcgfgodpiobcfaa.Q
open Go.ChangeMaps (open_string shut_string)
set_option linter.unusedVariables false
theorem own : ownKnob Try.prog.godebug = none := by kernel_rfl
theorem laidOut : laidOutB Try.prog = true := by kernel_rfl
set_option maxRecDepth 100000 in
theorem lifted (os : Os) (started : os.Started) (H : Type) (enc : TypeId × Value → H) :
    ReturnsInHanded {} Try.checked os 5 .any (Rows.fnExactSlotOkSpec.pre6 enc Try.prog Try.f5 Rows.fnExactSlotOkRow.domain false) (Rows.fnExactSlotOkSpec.post enc Try.prog Try.f5 false true false false) := by
  refine returnsInHanded_of_change_sized (C := Try.checked) own started (by kernel_rfl) Try.func5
    (ChangeSpec.witness6 (enc := enc) (C := Try.checked) false ⟨#[], #[.agg #[.int .u64 0, .int .u64 0, .int .u64 0, .int .u64 0, .int .u64 0, .int .u64 0, .int .u64 0]], []⟩ 8 (by kernel_rfl) (by kernel_rfl) (by kernel_rfl) (by kernel_rfl)) ?_
  intro W base args ds gs before hval0 hW hcnd hsz0 _
  have hval : ∀ (j : Nat) t v, Try.f5.params[j]? = some t → args[j]? = some v → Value.okWide Try.prog W .any base t v := hval0
  have hW' := hW
  obtain ⟨p, q, hA0, hV, rfl, hfz, hnd⟩ := hW
  have hA : DataW.TrodAll enc Try.prog W 0 (fun _ => true) true Try.f5.params.toList args.toList ds p := hA0
  rw [Try.params5] at hA hval
  obtain ⟨v0, vs0, d0, ds0, p0, q0, hargs, rfl, rfl, h0, r0⟩ := trodAll_cons hA
  obtain ⟨rfl, rfl, rfl⟩ := trodAll_nil r0
  obtain rfl : args = #[v0] := by cases args; simp_all
  obtain ⟨rfl, rfl⟩ := trodVars_none hV
  have k0 := h0
  have lt0 : ∀ x ∈ p0, x.block < W.heap.size := by obtain ⟨m, hm⟩ := k0; exact DataW.trod_lt m _ _ _ hm
  obtain ⟨C0, rfl, _⟩ := okWide_struct Try.underlying26 (hval 0 26 v0 rfl rfl)
  obtain ⟨u0, hf0⟩ := h0
  obtain ⟨y0, hK0, hG0⟩ := (opens_struct Try.underlying26 (opensF_cons rfl (by kernel_rfl) (opens_int Try.underlying22) (opensF_cons rfl (by kernel_rfl) (opens_int Try.underlying22) (opensF_cons rfl (by kernel_rfl) (opens_int Try.underlying22) (opensF_one rfl (by kernel_rfl) opensT24))))) _ _ _ _ _ _ _ _ _ hf0
  obtain ⟨E0, hE0⟩ : ∃ E, E = (Value.agg C0).cells.toList := ⟨_, rfl⟩
  rw [← hE0] at hK0
  obtain ⟨_, _, rfl, rfl, ⟨_, _, rfl, rfl, ⟨_, _, rfl, rfl, ⟨_, _, rfl, rfl, ⟨_, _, rfl, rfl, ⟨_, _, rfl, rfl, rfl⟩⟩⟩⟩⟩⟩ := hK0
  obtain ⟨C0⟩ := C0
  simp only [Value.cells, List.cons_append, List.nil_append] at hE0
  subst hE0
  clear hA0 hval0 hsz0
  obtain ⟨k, hP⟩ := Go.Proofs.Ytcgfgodpiobcfaa.Pure.FnExactSlotOk y0.1 y0.2.1 y0.2.2.1 y0.2.2.2.f0 y0.2.2.2.f1 y0.2.2.2.f2 y0.2.2.2.f3 hG0
  refine (laws_FnExactSlotOk.calls k y0.1 y0.2.1 y0.2.2.1 y0.2.2.2.f0 y0.2.2.2.f1 y0.2.2.2.f2 y0.2.2.2.f3 true W rfl hP).mono fun e W' ⟨he, bel0⟩ => ?_
  have bel : Below W.heap.size W W' := bel0
  subst he
  exact ⟨_, rfl, _, _, _, [], _, [], hW', trodAll_mk1 (shut_bool Try.underlying4 _), (trodAll_cons_mk (Below.trod laidOut (by kernel_rfl) (of_decide_eq_true (by kernel_rfl)) k0 bel lt0) trodAll_mk0), rfl, bel.frame _, fun h => by cases h⟩
theorem over : Rows.fnExactSlotOkRow.holds Try.pinned (OpenSpec.ofChange Rows.fnExactSlotOkSpec) :=
  OpenClaim.holds_of_wide 5 Try.f5 rfl rfl rfl rfl rfl rfl rfl ⟨rfl, rfl, rfl, rfl, rfl⟩ rfl rfl rfl rfl rfl (by kernel_rfl) Try.func5 (by kernel_rfl)
    (of_decide_eq_true (by kernel_rfl)) (by unfold Func.isWrapper; first | (rw [if_pos (by decide +kernel)]; kernel_rfl) | (rw [if_neg (by decide +kernel)]; exact ⟨rfl, rfl⟩))
    (fun os started H enc _ => lifted os started H enc)
theorem proved : Rows.FnExactSlotOkSaid := over
#print axioms proved
end Go.Proofs.Ytcgfgodpiobcfaa.fnExactSlotOk
namespace Go.Proofs.Ytcgfgodpiobcfaa
/-- The row, under a short name, for the claim. -/
theorem fnExactSlotOk_holds : Rows.FnExactSlotOkSaid := fnExactSlotOk.proved
end Go.Proofs.Ytcgfgodpiobcfaa
