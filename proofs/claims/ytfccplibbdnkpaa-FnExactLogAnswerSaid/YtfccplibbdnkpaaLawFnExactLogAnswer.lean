/- The law FnExactLogAnswer of the given program returns true at every input that reads as data of its parameters' types, and leaves its arguments as they were. No condition besides. -/
import Derived.Test.YtfccplibbdnkpaaRows
import Derived.Test.YtfccplibbdnkpaaFHExactLogAnswer
import Derived.Test.YtfccplibbdnkpaaVOp
import Derived.Test.YtfccplibbdnkpaaFJExactLogAnswer
import Derived.Test.YtfccplibbdnkpaaFKExactLogAnswer
import Derived.WalkKit
import Derived.ProofKit
import Derived.OpenShut
import Derived.ShutString
import Derived.ChangeOld
import Derived.Below
import Derived.SizedLaws
import Derived.Carry
namespace Go.Proofs.YtfccplibbdnkpaaW.V
open Go Go.Proofs
set_option maxRecDepth 100000
set_option linter.unusedVariables false
theorem oFnExactLogAnswer_p0 : OpensC Try.prog 24 (cList cStr) (fun x => (x.length ≤ maxLen ∧ ∀ y0 ∈ x, y0.size ≤ maxLen)) := (op_struct Try.underlying24 (opF_one rfl (by kernel_rfl) (op_list Try.underlying22 (by kernel_rfl) (by decide) (op_str Try.underlying9))))
theorem oFnExactLogAnswer_p1 : OpensC Try.prog 30 (cPair (cInt .i64) (cPair (cInt .i64) (cPair (cInt .i64) (cPair (cInt .i64) (cPair (cPair cU64 (cPair cU64 (cPair cU64 cU64))) (cPair (cInt .i64) (cPair (cList (cPair cU64 (cPair cU64 (cPair cU64 cU64)))) (cList cStr)))))))) (fun x => ((Lit.int .i64 x.1).wf = true ∧ ((Lit.int .i64 x.2.1).wf = true ∧ ((Lit.int .i64 x.2.2.1).wf = true ∧ ((Lit.int .i64 x.2.2.2.1).wf = true ∧ ((True ∧ (True ∧ (True ∧ True))) ∧ ((Lit.int .i64 x.2.2.2.2.2.1).wf = true ∧ ((x.2.2.2.2.2.2.1.length ≤ maxLen ∧ ∀ y0 ∈ x.2.2.2.2.2.2.1, (True ∧ (True ∧ (True ∧ True)))) ∧ (x.2.2.2.2.2.2.2.length ≤ maxLen ∧ ∀ y0 ∈ x.2.2.2.2.2.2.2, y0.size ≤ maxLen))))))))) := (op_struct Try.underlying30 (opF_cons rfl (by kernel_rfl) (op_int Try.underlying3) (opF_cons rfl (by kernel_rfl) (op_int Try.underlying3) (opF_cons rfl (by kernel_rfl) (op_int Try.underlying3) (opF_cons rfl (by kernel_rfl) (op_int Try.underlying3) (opF_cons rfl (by kernel_rfl) (op_struct Try.underlying27 (opF_cons rfl (by kernel_rfl) (op_u64 Try.underlying25) (opF_cons rfl (by kernel_rfl) (op_u64 Try.underlying25) (opF_cons rfl (by kernel_rfl) (op_u64 Try.underlying25) (opF_one rfl (by kernel_rfl) (op_u64 Try.underlying25)))))) (opF_cons rfl (by kernel_rfl) (op_int Try.underlying3) (opF_cons rfl (by kernel_rfl) (op_list Try.underlying28 (by kernel_rfl) (by decide) (op_struct Try.underlying27 (opF_cons rfl (by kernel_rfl) (op_u64 Try.underlying25) (opF_cons rfl (by kernel_rfl) (op_u64 Try.underlying25) (opF_cons rfl (by kernel_rfl) (op_u64 Try.underlying25) (opF_one rfl (by kernel_rfl) (op_u64 Try.underlying25))))))) (opF_one rfl (by kernel_rfl) (op_list Try.underlying22 (by kernel_rfl) (by decide) (op_str Try.underlying9)))))))))))
end Go.Proofs.YtfccplibbdnkpaaW.V
namespace Go.Proofs.Ytfccplibbdnkpaa.fnExactLogAnswer
open Go.ChangeShapes Go.WideShapes Go.ChangeAt Go.RowKit Go.Proofs.YtfccplibbdnkpaaW
open Go.ChangeMaps (open_string shut_string)
set_option linter.unusedVariables false
theorem own : ownKnob Try.prog.godebug = none := by kernel_rfl
theorem laidOut : laidOutB Try.prog = true := by kernel_rfl
set_option maxRecDepth 100000 in
theorem lifted (os : Os) (started : os.Started) (H : Type) (enc : TypeId × Value → H) :
    ReturnsInHanded {} Try.checked os 3 .any (Rows.fnExactLogAnswerSpec.pre6 enc Try.prog Try.f3 Rows.fnExactLogAnswerRow.domain false) (Rows.fnExactLogAnswerSpec.post enc Try.prog Try.f3 false true false false) := by
  refine returnsInHanded_of_change_sized (C := Try.checked) own started (by kernel_rfl) Try.func3
    (ChangeSpec.witness6 (enc := enc) (C := Try.checked) false ⟨#[], #[.agg #[.slice none 0 0], .agg #[.int .i64 0, .int .i64 0, .int .i64 0, .int .i64 0, .int .u64 0, .int .u64 0, .int .u64 0, .int .u64 0, .int .i64 0, .slice none 0 0, .slice none 0 0]], []⟩ 8 (by kernel_rfl) (by kernel_rfl) (by kernel_rfl) (by kernel_rfl)) ?_
  intro W base args ds gs before hval0 hW hcnd hsz0 _
  have hval : ∀ (j : Nat) t v, Try.f3.params[j]? = some t → args[j]? = some v → Value.okWide Try.prog W .any base t v := hval0
  have hW' := hW
  obtain ⟨p, q, hA0, hV, rfl, hfz, hnd⟩ := hW
  have hA : DataW.TrodAll enc Try.prog W 0 (fun _ => true) true Try.f3.params.toList args.toList ds p := hA0
  rw [Try.params3] at hA hval
  obtain ⟨v0, vs0, d0, ds0, p0, q0, hargs, rfl, rfl, h0, r0⟩ := trodAll_cons hA
  obtain ⟨v1, vs1, d1, ds1, p1, q1, rfl, rfl, rfl, h1, r1⟩ := trodAll_cons r0
  obtain ⟨rfl, rfl, rfl⟩ := trodAll_nil r1
  obtain rfl : args = #[v0, v1] := by cases args; simp_all
  obtain ⟨rfl, rfl⟩ := trodVars_none hV
  have k0 := h0
  have lt0 : ∀ x ∈ p0, x.block < W.heap.size := by obtain ⟨m, hm⟩ := k0; exact DataW.trod_lt m _ _ _ hm
  obtain ⟨C0, rfl, _⟩ := okWide_struct Try.underlying24 (hval 0 24 v0 rfl rfl)
  obtain ⟨u0, hf0⟩ := h0
  obtain ⟨a0, hE0, w0⟩ := V.oFnExactLogAnswer_p0 _ _ _ _ _ _ _ _ _ hf0
  have k1 := h1
  have lt1 : ∀ x ∈ p1, x.block < W.heap.size := by obtain ⟨m, hm⟩ := k1; exact DataW.trod_lt m _ _ _ hm
  obtain ⟨C1, rfl, _⟩ := okWide_struct Try.underlying30 (hval 1 30 v1 rfl rfl)
  obtain ⟨u1, hf1⟩ := h1
  obtain ⟨a1, hE1, w1⟩ := V.oFnExactLogAnswer_p1 _ _ _ _ _ _ _ _ _ hf1
  clear hA0 hval0 hsz0
  refine (V.law_calls (V.f_FnExactLogAnswer a0 a1 w0 w1) (.cons (V.er_struct hE0) (.cons (V.er_struct hE1) .nil))).mono fun e W' ⟨he, bel⟩ => ?_
  subst he
  exact ⟨_, rfl, _, _, _, [], _, [], hW', trodAll_mk1 (shut_bool Try.underlying4 _), (trodAll_cons_mk (Below.trod laidOut (by kernel_rfl) (of_decide_eq_true (by kernel_rfl)) k0 bel lt0) (trodAll_cons_mk (Below.trod laidOut (by kernel_rfl) (of_decide_eq_true (by kernel_rfl)) k1 bel lt1) trodAll_mk0)), rfl, bel.frame _, fun h => by cases h⟩
theorem over : Rows.fnExactLogAnswerRow.holds Try.pinned (OpenSpec.ofChange Rows.fnExactLogAnswerSpec) :=
  OpenClaim.holds_of_wide 3 Try.f3 rfl rfl rfl rfl rfl rfl rfl ⟨rfl, rfl, rfl, rfl, rfl⟩ rfl rfl rfl rfl rfl named Try.func3 facts inst wrapper
    (fun os started H enc _ => lifted os started H enc)
theorem proved : Rows.FnExactLogAnswerSaid := over
#print axioms proved
end Go.Proofs.Ytfccplibbdnkpaa.fnExactLogAnswer
namespace Go.Proofs.Ytfccplibbdnkpaa
/-- The row, under a short name, for the claim. -/
theorem fnExactLogAnswer_holds : Rows.FnExactLogAnswerSaid := fnExactLogAnswer.proved
end Go.Proofs.Ytfccplibbdnkpaa
