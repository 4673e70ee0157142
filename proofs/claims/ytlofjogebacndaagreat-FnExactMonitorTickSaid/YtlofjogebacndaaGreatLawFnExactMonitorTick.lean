/- The law FnExactMonitorTick of the given program returns true at every input that reads as data of its parameters' types, and leaves its arguments as they were. No condition besides. -/
import Derived.Test.YtlofjogebacndaaGreatRows
import Derived.Test.YtlofjogebacndaaGreatFHExactMonitorTick
import Derived.Test.YtlofjogebacndaaGreatVOp
import Derived.Test.YtlofjogebacndaaGreatFJExactMonitorTick
import Derived.Test.YtlofjogebacndaaGreatFKExactMonitorTick
import Derived.WalkKit
import Derived.ProofKit
import Derived.OpenShut
import Derived.ShutString
import Derived.ChangeOld
import Derived.Below
import Derived.SizedLaws
import Derived.Carry
namespace Go.Proofs.YtlofjogebacndaaGreatW.V
open Go Go.Proofs
set_option maxRecDepth 100000
set_option linter.unusedVariables false
theorem oFnExactMonitorTick_p0 : OpensC Tryz.prog 32 (cPair (cPair (cInt .i64) (cPair (cInt .i64) (cPair (cInt .i64) (cPair (cInt .i64) (cPair (cPair (cInt .i64) (cPair cU64 (cPair cU64 (cPair cU64 cU64)))) (cPair (cList (cInt .i64)) (cPair (cInt .i64) (cPair cU64 (cPair cU64 (cPair cU64 cU64)))))))))) (cPair (cList cStr) (cPair (cInt .i64) (cPair cU64 (cPair cU64 (cPair cU64 cU64)))))) (fun x => (((Lit.int .i64 x.1.1).wf = true ∧ ((Lit.int .i64 x.1.2.1).wf = true ∧ ((Lit.int .i64 x.1.2.2.1).wf = true ∧ ((Lit.int .i64 x.1.2.2.2.1).wf = true ∧ (((Lit.int .i64 x.1.2.2.2.2.1.1).wf = true ∧ (True ∧ (True ∧ (True ∧ True)))) ∧ ((x.1.2.2.2.2.2.1.length ≤ maxLen ∧ ∀ y0 ∈ x.1.2.2.2.2.2.1, (Lit.int .i64 y0).wf = true) ∧ ((Lit.int .i64 x.1.2.2.2.2.2.2.1).wf = true ∧ (True ∧ (True ∧ (True ∧ True)))))))))) ∧ ((x.2.1.length ≤ maxLen ∧ ∀ y0 ∈ x.2.1, y0.size ≤ maxLen) ∧ ((Lit.int .i64 x.2.2.1).wf = true ∧ (True ∧ (True ∧ (True ∧ True))))))) := (op_struct Tryz.underlying32 (opF_cons rfl (by kernel_rfl) (op_struct Tryz.underlying29 (opF_cons rfl (by kernel_rfl) (op_int Tryz.underlying3) (opF_cons rfl (by kernel_rfl) (op_int Tryz.underlying3) (opF_cons rfl (by kernel_rfl) (op_int Tryz.underlying3) (opF_cons rfl (by kernel_rfl) (op_int Tryz.underlying3) (opF_cons rfl (by kernel_rfl) (op_struct Tryz.underlying26 (opF_cons rfl (by kernel_rfl) (op_int Tryz.underlying3) (opF_one rfl (by kernel_rfl) (op_struct Tryz.underlying24 (opF_cons rfl (by kernel_rfl) (op_u64 Tryz.underlying22) (opF_cons rfl (by kernel_rfl) (op_u64 Tryz.underlying22) (opF_cons rfl (by kernel_rfl) (op_u64 Tryz.underlying22) (opF_one rfl (by kernel_rfl) (op_u64 Tryz.underlying22))))))))) (opF_cons rfl (by kernel_rfl) (op_list Tryz.underlying27 (by kernel_rfl) (by decide) (op_int Tryz.underlying3)) (opF_one rfl (by kernel_rfl) (op_struct Tryz.underlying26 (opF_cons rfl (by kernel_rfl) (op_int Tryz.underlying3) (opF_one rfl (by kernel_rfl) (op_struct Tryz.underlying24 (opF_cons rfl (by kernel_rfl) (op_u64 Tryz.underlying22) (opF_cons rfl (by kernel_rfl) (op_u64 Tryz.underlying22) (opF_cons rfl (by kernel_rfl) (op_u64 Tryz.underlying22) (opF_one rfl (by kernel_rfl) (op_u64 Tryz.underlying22))))))))))))))))) (opF_cons rfl (by kernel_rfl) (op_list Tryz.underlying30 (by kernel_rfl) (by decide) (op_str Tryz.underlying9)) (opF_one rfl (by kernel_rfl) (op_struct Tryz.underlying26 (opF_cons rfl (by kernel_rfl) (op_int Tryz.underlying3) (opF_one rfl (by kernel_rfl) (op_struct Tryz.underlying24 (opF_cons rfl (by kernel_rfl) (op_u64 Tryz.underlying22) (opF_cons rfl (by kernel_rfl) (op_u64 Tryz.underlying22) (opF_cons rfl (by kernel_rfl) (op_u64 Tryz.underlying22) (opF_one rfl (by kernel_rfl) (op_u64 Tryz.underlying22)))))))))))))
end Go.Proofs.YtlofjogebacndaaGreatW.V
namespace Go.Proofs.YtlofjogebacndaaGreat.fnExactMonitorTick
open Go.ChangeShapes Go.WideShapes Go.ChangeAt Go.RowKit Go.Proofs.YtlofjogebacndaaGreatW
open Go.ChangeMaps (open_string shut_string)
set_option linter.unusedVariables false
theorem own : ownKnob Tryz.prog.godebug = none := by kernel_rfl
theorem laidOut : laidOutB Tryz.prog = true := by kernel_rfl
set_option maxRecDepth 100000 in
theorem lifted (os : Os) (started : os.Started) (H : Type) (enc : TypeId × Value → H) :
    ReturnsInHanded {} Tryz.checked os 3 .any (Rows.fnExactMonitorTickSpec.pre6 enc Tryz.prog Tryz.f3 Rows.fnExactMonitorTickRow.domain false) (Rows.fnExactMonitorTickSpec.post enc Tryz.prog Tryz.f3 false true false false) := by
  refine returnsInHanded_of_change_sized (C := Tryz.checked) own started (by kernel_rfl) Tryz.func3
    (ChangeSpec.witness6 (enc := enc) (C := Tryz.checked) false ⟨#[], #[.agg #[.int .i64 0, .int .i64 0, .int .i64 0, .int .i64 0, .int .i64 0, .int .u64 0, .int .u64 0, .int .u64 0, .int .u64 0, .slice none 0 0, .int .i64 0, .int .u64 0, .int .u64 0, .int .u64 0, .int .u64 0, .slice none 0 0, .int .i64 0, .int .u64 0, .int .u64 0, .int .u64 0, .int .u64 0], .int .i64 0], []⟩ 8 (by kernel_rfl) (by kernel_rfl) (by kernel_rfl) (by kernel_rfl)) ?_
  intro W base args ds gs before hval0 hW hcnd hsz0 _
  have hval : ∀ (j : Nat) t v, Tryz.f3.params[j]? = some t → args[j]? = some v → Value.okWide Tryz.prog W .any base t v := hval0
  have hW' := hW
  obtain ⟨p, q, hA0, hV, rfl, hfz, hnd⟩ := hW
  have hA : DataW.TrodAll enc Tryz.prog W 0 (fun _ => true) true Tryz.f3.params.toList args.toList ds p := hA0
  rw [Tryz.params3] at hA hval
  obtain ⟨v0, vs0, d0, ds0, p0, q0, hargs, rfl, rfl, h0, r0⟩ := trodAll_cons hA
  obtain ⟨v1, vs1, d1, ds1, p1, q1, rfl, rfl, rfl, h1, r1⟩ := trodAll_cons r0
  obtain ⟨rfl, rfl, rfl⟩ := trodAll_nil r1
  obtain rfl : args = #[v0, v1] := by cases args; simp_all
  obtain ⟨rfl, rfl⟩ := trodVars_none hV
  have k0 := h0
  have lt0 : ∀ x ∈ p0, x.block < W.heap.size := by obtain ⟨m, hm⟩ := k0; exact DataW.trod_lt m _ _ _ hm
  obtain ⟨C0, rfl, _⟩ := okWide_struct Tryz.underlying32 (hval 0 32 v0 rfl rfl)
  obtain ⟨u0, hf0⟩ := h0
  obtain ⟨a0, hE0, w0⟩ := V.oFnExactMonitorTick_p0 _ _ _ _ _ _ _ _ _ hf0
  obtain ⟨a1, rfl, rfl, rfl, w1⟩ := open_int Tryz.underlying3 (hval 1 3 v1 rfl rfl) h1
  clear hA0 hval0 hsz0
  refine (V.law_calls (V.f_FnExactMonitorTick a0 a1 w0 w1) (.cons (V.er_struct hE0) (.cons (V.er_int .i64 a1) .nil))).mono fun e W' ⟨he, bel⟩ => ?_
  subst he
  exact ⟨_, rfl, _, _, _, [], _, [], hW', trodAll_mk1 (shut_bool Tryz.underlying4 _), (trodAll_cons_mk (Below.trod laidOut (by kernel_rfl) (of_decide_eq_true (by kernel_rfl)) k0 bel lt0) (trodAll_cons_mk (shut_int Tryz.underlying3 w1) trodAll_mk0)), rfl, bel.frame _, fun h => by cases h⟩
theorem over : Rows.fnExactMonitorTickRow.holds Tryz.pinned (OpenSpec.ofChange Rows.fnExactMonitorTickSpec) :=
  OpenClaim.holds_of_wide 3 Tryz.f3 rfl rfl rfl rfl rfl rfl rfl ⟨rfl, rfl, rfl, rfl, rfl⟩ rfl rfl rfl rfl rfl named Tryz.func3 facts inst wrapper
    (fun os started H enc _ => lifted os started H enc)
theorem proved : Rows.FnExactMonitorTickSaid := over
#print axioms proved
end Go.Proofs.YtlofjogebacndaaGreat.fnExactMonitorTick
namespace Go.Proofs.YtlofjogebacndaaGreat
/-- The row, under a short name, for the claim. -/
theorem fnExactMonitorTick_holds : Rows.FnExactMonitorTickSaid := fnExactMonitorTick.proved
end Go.Proofs.YtlofjogebacndaaGreat
