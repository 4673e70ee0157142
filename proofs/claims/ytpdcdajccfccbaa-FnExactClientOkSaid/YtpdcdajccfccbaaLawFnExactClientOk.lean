/- The law FnExactClientOk of the given program returns true at every input that reads as data of its parameters' types, and leaves its arguments as they were. No condition besides. -/
import Derived.Test.YtpdcdajccfccbaaRows
import Derived.Test.YtpdcdajccfccbaaQx24
import Derived.Test.YtpdcdajccfccbaaPureFnExactClientOk
import Derived.WalkKit
import Derived.ProofKit
import Derived.OpenShut
import Derived.ShutString
import Derived.ChangeOld
import Derived.Below
import Derived.SizedLaws
import Derived.Carry
namespace Go.Proofs.Ytpdcdajccfccbaa.fnExactClientOk
open Go.ChangeShapes Go.WideShapes Go.ChangeAt Go.RowKit Go.Proofs.YtpdcdajccfccbaaW.PrintWords Go.Proofs.Ytpdcdajccfccbaa.Q
open Go.ChangeMaps (open_string shut_string)
set_option linter.unusedVariables false
theorem own : ownKnob Try.prog.godebug = none := by kernel_rfl
theorem laidOut : laidOutB Try.prog = true := by kernel_rfl
set_option maxRecDepth 100000 in
theorem lifted (os : Os) (started : os.Started) (H : Type) (enc : TypeId × Value → H) :
    ReturnsInHanded {} Try.checked os 9 .any (Rows.fnExactClientOkSpec.pre6 enc Try.prog Try.f9 Rows.fnExactClientOkRow.domain false) (Rows.fnExactClientOkSpec.post enc Try.prog Try.f9 false true false false) := by
  refine returnsInHanded_of_change_sized (C := Try.checked) own started (by kernel_rfl) Try.func9
    (ChangeSpec.witness6 (enc := enc) (C := Try.checked) false ⟨#[], #[.agg #[.int .i64 0, .int .i64 0, .int .i64 0, .int .i64 0, .int .i64 0, .int .u64 0, .int .u64 0, .int .u64 0, .int .u64 0, .slice none 0 0, .int .i64 0, .int .u64 0, .int .u64 0, .int .u64 0, .int .u64 0]], []⟩ 8 (by kernel_rfl) (by kernel_rfl) (by kernel_rfl) (by kernel_rfl)) ?_
  intro W base args ds gs before hval0 hW hcnd hsz0 _
  have hval : ∀ (j : Nat) t v, Try.f9.params[j]? = some t → args[j]? = some v → Value.okWide Try.prog W .any base t v := hval0
  have hW' := hW
  obtain ⟨p, q, hA0, hV, rfl, hfz, hnd⟩ := hW
  have hA : DataW.TrodAll enc Try.prog W 0 (fun _ => true) true Try.f9.params.toList args.toList ds p := hA0
  rw [Try.params9] at hA hval
  obtain ⟨v0, vs0, d0, ds0, p0, q0, hargs, rfl, rfl, h0, r0⟩ := trodAll_cons hA
  obtain ⟨rfl, rfl, rfl⟩ := trodAll_nil r0
  obtain rfl : args = #[v0] := by cases args; simp_all
  obtain ⟨rfl, rfl⟩ := trodVars_none hV
  have k0 := h0
  have lt0 : ∀ x ∈ p0, x.block < W.heap.size := by obtain ⟨m, hm⟩ := k0; exact DataW.trod_lt m _ _ _ hm
  obtain ⟨C0, rfl, _⟩ := okWide_struct Try.underlying71 (hval 0 71 v0 rfl rfl)
  obtain ⟨u0, hf0⟩ := h0
  obtain ⟨y0, hK0, hG0⟩ := (opens_struct Try.underlying71 (opensF_cons rfl (by kernel_rfl) (opens_int Try.underlying3) (opensF_cons rfl (by kernel_rfl) (opens_int Try.underlying3) (opensF_cons rfl (by kernel_rfl) (opens_int Try.underlying3) (opensF_cons rfl (by kernel_rfl) (opens_int Try.underlying3) (opensF_cons rfl (by kernel_rfl) (opens_struct Try.underlying69 (opensF_cons rfl (by kernel_rfl) (opens_int Try.underlying3) (opensF_one rfl (by kernel_rfl) (opens_struct Try.underlying67 (opensF_cons rfl (by kernel_rfl) (opens_int Try.underlying54) (opensF_cons rfl (by kernel_rfl) (opens_int Try.underlying54) (opensF_cons rfl (by kernel_rfl) (opens_int Try.underlying54) (opensF_one rfl (by kernel_rfl) (opens_int Try.underlying54))))))))) (opensF_cons rfl (by kernel_rfl) (opens_slice Try.underlying59 (by kernel_rfl) (opens_int Try.underlying3) 3) (opensF_one rfl (by kernel_rfl) (opens_struct Try.underlying69 (opensF_cons rfl (by kernel_rfl) (opens_int Try.underlying3) (opensF_one rfl (by kernel_rfl) (opens_struct Try.underlying67 (opensF_cons rfl (by kernel_rfl) (opens_int Try.underlying54) (opensF_cons rfl (by kernel_rfl) (opens_int Try.underlying54) (opensF_cons rfl (by kernel_rfl) (opens_int Try.underlying54) (opensF_one rfl (by kernel_rfl) (opens_int Try.underlying54))))))))))))))))) _ _ _ _ _ _ _ _ _ hf0
  obtain ⟨E0, hE0⟩ : ∃ E, E = (Value.agg C0).cells.toList := ⟨_, rfl⟩
  rw [← hE0] at hK0
  obtain ⟨_, _, rfl, rfl, ⟨_, _, rfl, rfl, ⟨_, _, rfl, rfl, ⟨_, _, rfl, rfl, ⟨_, _, rfl, ⟨_, _, rfl, rfl, ⟨_, _, rfl, rfl, ⟨_, _, rfl, rfl, ⟨_, _, rfl, rfl, rfl⟩⟩⟩⟩, ⟨_, _, rfl, ⟨A0_9, c0_9, rfl, hc0_9, hr0_9⟩, ⟨_, _, rfl, rfl, ⟨_, _, rfl, rfl, ⟨_, _, rfl, rfl, ⟨_, _, rfl, rfl, rfl⟩⟩⟩⟩⟩⟩⟩⟩⟩⟩ := hK0
  obtain ⟨C0⟩ := C0
  simp only [Value.cells, List.cons_append, List.nil_append] at hE0
  subst hE0
  clear hA0 hval0 hsz0
  obtain ⟨k, hP⟩ := Go.Proofs.Ytpdcdajccfccbaa.Pure.FnExactClientOk y0.1 y0.2.1 y0.2.2.1 y0.2.2.2.1 y0.2.2.2.2.1.1 y0.2.2.2.2.1.2.1 y0.2.2.2.2.1.2.2.1 y0.2.2.2.2.1.2.2.2.1 y0.2.2.2.2.1.2.2.2.2 y0.2.2.2.2.2.1 y0.2.2.2.2.2.2.1 y0.2.2.2.2.2.2.2.1 y0.2.2.2.2.2.2.2.2.1 y0.2.2.2.2.2.2.2.2.2.1 y0.2.2.2.2.2.2.2.2.2.2 hG0
  refine (laws_FnExactClientOk.calls k y0.1 y0.2.1 y0.2.2.1 y0.2.2.2.1 y0.2.2.2.2.1.1 y0.2.2.2.2.1.2.1 y0.2.2.2.2.1.2.2.1 y0.2.2.2.2.1.2.2.2.1 y0.2.2.2.2.1.2.2.2.2 _ _ y0.2.2.2.2.2.1 y0.2.2.2.2.2.2.1 y0.2.2.2.2.2.2.2.1 y0.2.2.2.2.2.2.2.2.1 y0.2.2.2.2.2.2.2.2.2.1 y0.2.2.2.2.2.2.2.2.2.2 true W rfl hr0_9 hc0_9 hP).mono fun e W' ⟨he, bel0⟩ => ?_
  have bel : Below W.heap.size W W' := bel0
  subst he
  exact ⟨_, rfl, _, _, _, [], _, [], hW', trodAll_mk1 (shut_bool Try.underlying4 _), (trodAll_cons_mk (Below.trod laidOut (by kernel_rfl) (of_decide_eq_true (by kernel_rfl)) k0 bel lt0) trodAll_mk0), rfl, bel.frame _, fun h => by cases h⟩
theorem over : Rows.fnExactClientOkRow.holds Try.pinned (OpenSpec.ofChange Rows.fnExactClientOkSpec) :=
  OpenClaim.holds_of_wide 9 Try.f9 rfl rfl rfl rfl rfl rfl rfl ⟨rfl, rfl, rfl, rfl, rfl⟩ rfl rfl rfl rfl rfl (by kernel_rfl) Try.func9 (by kernel_rfl)
    (of_decide_eq_true (by kernel_rfl)) (by unfold Func.isWrapper; first | (rw [if_pos (by decide +kernel)]; kernel_rfl) | (rw [if_neg (by decide +kernel)]; exact ⟨rfl, rfl⟩))
    (fun os started H enc _ => lifted os started H enc)
theorem proved : Rows.FnExactClientOkSaid := over
#print axioms proved
end Go.Proofs.Ytpdcdajccfccbaa.fnExactClientOk
namespace Go.Proofs.Ytpdcdajccfccbaa
/-- The row, under a short name, for the claim. -/
theorem fnExactClientOk_holds : Rows.FnExactClientOkSaid := fnExactClientOk.proved
end Go.Proofs.Ytpdcdajccfccbaa
