/- The law FnExactRecordRaws of the given program returns true at every input that reads as data of its parameters' types, and leaves its arguments as they were. No condition besides. -/
import Derived.Test.YtgdbammhnjkbbaaRows
import Derived.Test.YtgdbammhnjkbbaaFHExactRecordRaws
import Derived.Test.YtgdbammhnjkbbaaVOp
import Derived.Test.YtgdbammhnjkbbaaFJExactRecordRaws
import Derived.Test.YtgdbammhnjkbbaaFKExactRecordRaws
import Derived.WalkKit
import Derived.ProofKit
import Derived.OpenShut
import Derived.ShutString
import Derived.ChangeOld
import Derived.Below
import Derived.SizedLaws
import Derived.Carry
namespace Go.Proofs.YtgdbammhnjkbbaaW.V
open Go Go.Proofs
set_option maxRecDepth 100000
set_option linter.unusedVariables false
theorem oFnExactRecordRaws_p0 : OpensC Try.prog 28 (cPair (cPair cU64 (cPair cU64 (cPair cU64 (cPair cU64 (cPair cU64 (cPair cU64 cU64)))))) (cPair cU64 (cPair cU64 (cPair cU64 (cPair cU64 (cPair cU64 (cPair cU64 cU64))))))) (fun x => ((True ∧ (True ∧ (True ∧ (True ∧ (True ∧ (True ∧ True)))))) ∧ (True ∧ (True ∧ (True ∧ (True ∧ (True ∧ (True ∧ True)))))))) := (op_struct Try.underlying28 (opF_cons rfl (by kernel_rfl) (op_struct Try.underlying26 (opF_cons rfl (by kernel_rfl) (op_u64 Try.underlying22) (opF_cons rfl (by kernel_rfl) (op_u64 Try.underlying22) (opF_cons rfl (by kernel_rfl) (op_u64 Try.underlying22) (opF_one rfl (by kernel_rfl) (op_struct Try.underlying24 (opF_cons rfl (by kernel_rfl) (op_u64 Try.underlying22) (opF_cons rfl (by kernel_rfl) (op_u64 Try.underlying22) (opF_cons rfl (by kernel_rfl) (op_u64 Try.underlying22) (opF_one rfl (by kernel_rfl) (op_u64 Try.underlying22))))))))))) (opF_one rfl (by kernel_rfl) (op_struct Try.underlying26 (opF_cons rfl (by kernel_rfl) (op_u64 Try.underlying22) (opF_cons rfl (by kernel_rfl) (op_u64 Try.underlying22) (opF_cons rfl (by kernel_rfl) (op_u64 Try.underlying22) (opF_one rfl (by kernel_rfl) (op_struct Try.underlying24 (opF_cons rfl (by kernel_rfl) (op_u64 Try.underlying22) (opF_cons rfl (by kernel_rfl) (op_u64 Try.underlying22) (opF_cons rfl (by kernel_rfl) (op_u64 Try.underlying22) (opF_one rfl (by kernel_rfl) (op_u64 Try.underlying22))))))))))))))
theorem oFnExactRecordRaws_p2 : OpensC Try.prog 24 (cPair cU64 (cPair cU64 (cPair cU64 cU64))) (fun x => (True ∧ (True ∧ (True ∧ True)))) := (op_struct Try.underlying24 (opF_cons rfl (by kernel_rfl) (op_u64 Try.underlying22) (opF_cons rfl (by kernel_rfl) (op_u64 Try.underlying22) (opF_cons rfl (by kernel_rfl) (op_u64 Try.underlying22) (opF_one rfl (by kernel_rfl) (op_u64 Try.underlying22))))))
end Go.Proofs.YtgdbammhnjkbbaaW.V
namespace Go.Proofs.Ytgdbammhnjkbbaa.fnExactRecordRaws
open Go.ChangeShapes Go.WideShapes Go.ChangeAt Go.RowKit Go.Proofs.YtgdbammhnjkbbaaW
open Go.ChangeMaps (open_string shut_string)
set_option linter.unusedVariables false
theorem own : ownKnob Try.prog.godebug = none := by kernel_rfl
theorem laidOut : laidOutB Try.prog = true := by kernel_rfl
set_option maxRecDepth 100000 in
theorem lifted (os : Os) (started : os.Started) (H : Type) (enc : TypeId × Value → H) :
    ReturnsInHanded {} Try.checked os 3 .any (Rows.fnExactRecordRawsSpec.pre6 enc Try.prog Try.f3 Rows.fnExactRecordRawsRow.domain false) (Rows.fnExactRecordRawsSpec.post enc Try.prog Try.f3 false true false false) := by
  refine returnsInHanded_of_change_sized (C := Try.checked) own started (by kernel_rfl) Try.func3
    (ChangeSpec.witness6 (enc := enc) (C := Try.checked) false ⟨#[], #[.agg #[.int .u64 0, .int .u64 0, .int .u64 0, .int .u64 0, .int .u64 0, .int .u64 0, .int .u64 0, .int .u64 0, .int .u64 0, .int .u64 0, .int .u64 0, .int .u64 0, .int .u64 0, .int .u64 0], .int .i64 0, .agg #[.int .u64 0, .int .u64 0, .int .u64 0, .int .u64 0]], []⟩ 8 (by kernel_rfl) (by kernel_rfl) (by kernel_rfl) (by kernel_rfl)) ?_
  intro W base args ds gs before hval0 hW hcnd hsz0 _
  have hval : ∀ (j : Nat) t v, Try.f3.params[j]? = some t → args[j]? = some v → Value.okWide Try.prog W .any base t v := hval0
  have hW' := hW
  obtain ⟨p, q, hA0, hV, rfl, hfz, hnd⟩ := hW
  have hA : DataW.TrodAll enc Try.prog W 0 (fun _ => true) true Try.f3.params.toList args.toList ds p := hA0
  rw [Try.params3] at hA hval
  obtain ⟨v0, vs0, d0, ds0, p0, q0, hargs, rfl, rfl, h0, r0⟩ := trodAll_cons hA
  obtain ⟨v1, vs1, d1, ds1, p1, q1, rfl, rfl, rfl, h1, r1⟩ := trodAll_cons r0
  obtain ⟨v2, vs2, d2, ds2, p2, q2, rfl, rfl, rfl, h2, r2⟩ := trodAll_cons r1
  obtain ⟨rfl, rfl, rfl⟩ := trodAll_nil r2
  obtain rfl : args = #[v0, v1, v2] := by cases args; simp_all
  obtain ⟨rfl, rfl⟩ := trodVars_none hV
  have k0 := h0
  have lt0 : ∀ x ∈ p0, x.block < W.heap.size := by obtain ⟨m, hm⟩ := k0; exact DataW.trod_lt m _ _ _ hm
  obtain ⟨C0, rfl, _⟩ := okWide_struct Try.underlying28 (hval 0 28 v0 rfl rfl)
  obtain ⟨u0, hf0⟩ := h0
  obtain ⟨a0, hE0, w0⟩ := V.oFnExactRecordRaws_p0 _ _ _ _ _ _ _ _ _ hf0
  obtain ⟨a1, rfl, rfl, rfl, w1⟩ := open_int Try.underlying3 (hval 1 3 v1 rfl rfl) h1
  have k2 := h2
  have lt2 : ∀ x ∈ p2, x.block < W.heap.size := by obtain ⟨m, hm⟩ := k2; exact DataW.trod_lt m _ _ _ hm
  obtain ⟨C2, rfl, _⟩ := okWide_struct Try.underlying24 (hval 2 24 v2 rfl rfl)
  obtain ⟨u2, hf2⟩ := h2
  obtain ⟨a2, hE2, w2⟩ := V.oFnExactRecordRaws_p2 _ _ _ _ _ _ _ _ _ hf2
  clear hA0 hval0 hsz0
  refine (V.law_calls (V.f_FnExactRecordRaws a0 a1 a2 w0 w1 w2) (.cons (V.er_struct hE0) (.cons (V.er_int .i64 a1) (.cons (V.er_struct hE2) .nil)))).mono fun e W' ⟨he, bel⟩ => ?_
  subst he
  exact ⟨_, rfl, _, _, _, [], _, [], hW', trodAll_mk1 (shut_bool Try.underlying4 _), (trodAll_cons_mk (Below.trod laidOut (by kernel_rfl) (of_decide_eq_true (by kernel_rfl)) k0 bel lt0) (trodAll_cons_mk (shut_int Try.underlying3 w1) (trodAll_cons_mk (Below.trod laidOut (by kernel_rfl) (of_decide_eq_true (by kernel_rfl)) k2 bel lt2) trodAll_mk0))), rfl, bel.frame _, fun h => by cases h⟩
theorem over : Rows.fnExactRecordRawsRow.holds Try.pinned (OpenSpec.ofChange Rows.fnExactRecordRawsSpec) :=
  OpenClaim.holds_of_wide 3 Try.f3 rfl rfl rfl rfl rfl rfl rfl ⟨rfl, rfl, rfl, rfl, rfl⟩ rfl rfl rfl rfl rfl named Try.func3 facts inst wrapper
    (fun os started H enc _ => lifted os started H enc)
theorem proved : Rows.FnExactRecordRawsSaid := over
#print axioms proved
end Go.Proofs.Ytgdbammhnjkbbaa.fnExactRecordRaws
namespace Go.Proofs.Ytgdbammhnjkbbaa
/-- The row, under a short name, for the claim. -/
theorem fnExactRecordRaws_holds : Rows.FnExactRecordRawsSaid := fnExactRecordRaws.proved
end Go.Proofs.Ytgdbammhnjkbbaa
