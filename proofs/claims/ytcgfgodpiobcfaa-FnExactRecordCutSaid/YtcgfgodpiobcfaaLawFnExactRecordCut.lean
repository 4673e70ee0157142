/- The law FnExactRecordCut of the given program returns true at every input that reads as data of its parameters' types, and leaves its arguments as they were. No condition besides. -/
import Derived.Test.YtcgfgodpiobcfaaRD
import Derived.Test.YtcgfgodpiobcfaaWOpen
import Derived.KernelRfl
import Derived.Test.YtcgfgodpiobcfaaRDisk
import Derived.Test.YtcgfgodpiobcfaaRows
import Derived.Test.YtcgfgodpiobcfaaRx21
import Derived.WalkKit
import Derived.ProofKit
import Derived.OpenShut
import Derived.ShutString
import Derived.ChangeOld
import Derived.Below
import Derived.SizedLaws
import Derived.Carry
namespace Go.Proofs.Ytcgfgodpiobcfaa.R
open Go.RowKit Go.Proofs.YtcgfgodpiobcfaaW.PrintWords Go.Proofs.YtcgfgodpiobcfaaW.PrintLast
set_option linter.unusedVariables false
def G95 (x : S95) : Prop := (Lit.int .i64 x.f0).wf = true ∧ (Lit.int .i64 x.f1).wf = true ∧ (Lit.int .u64 x.f2).wf = true
theorem opensT95 : Opens Try.prog 95 k95 G95 :=
  opens_iso (opens_struct Try.underlying95 (opensF_cons rfl (by kernel_rfl) (opens_int Try.underlying3) (opensF_cons rfl (by kernel_rfl) (opens_int Try.underlying3) (opensF_one rfl (by kernel_rfl) (opens_int Try.underlying22))))) (fun x : S95 => (x.f0, x.f1, x.f2)) (fun a => ⟨a.1, a.2.1, a.2.2⟩) (fun _ => rfl)
/-- The one plain statement of this law. -/
def laws_FnExactRecordCut.Plain : Prop := ∀ (a0_0 : Int) (a0_1 : Int) (a0_2 : Int) (a0_3 : Int) (a0_4 : Int) (a0_5 : Int) (a0_6 : Int) (a0_7 : Int) (a0_8 : Int) (a0_9 : Int) (a0_10 : Int) (a0_11 : Int) (a0_12 : Int) (a0_13 : Int) (l1 : List S95) (a2 : Int), (((Lit.int .u64 a0_0).wf = true ∧ (Lit.int .u64 a0_1).wf = true ∧ (Lit.int .u64 a0_2).wf = true ∧ ((Lit.int .u64 a0_3).wf = true ∧ (Lit.int .u64 a0_4).wf = true ∧ (Lit.int .u64 a0_5).wf = true ∧ (Lit.int .u64 a0_6).wf = true)) ∧ ((Lit.int .u64 a0_7).wf = true ∧ (Lit.int .u64 a0_8).wf = true ∧ (Lit.int .u64 a0_9).wf = true ∧ ((Lit.int .u64 a0_10).wf = true ∧ (Lit.int .u64 a0_11).wf = true ∧ (Lit.int .u64 a0_12).wf = true ∧ (Lit.int .u64 a0_13).wf = true))) → (l1.length ≤ maxLen ∧ ∀ y ∈ l1, G95 y) → (Lit.int .i64 a2).wf = true → ∃ k, laws_FnExactRecordCut.f k a0_0 a0_1 a0_2 a0_3 a0_4 a0_5 a0_6 a0_7 a0_8 a0_9 a0_10 a0_11 a0_12 a0_13 l1 a2 = some true
end Go.Proofs.Ytcgfgodpiobcfaa.R

namespace Go.Proofs.Ytcgfgodpiobcfaa.Pure
open Go.RowKit Go.Proofs.Ytcgfgodpiobcfaa.R Go.Proofs.Ytcgfgodpiobcfaa.Disk Go.Proofs.YtcgfgodpiobcfaaW.PrintWords Go.Proofs.YtcgfgodpiobcfaaW.PrintLast
set_option linter.unusedSimpArgs false
set_option linter.unusedVariables false
def cutTo (n : Nat) (a : Int) : Nat := if a < 0 then 0 else if a > (n : Int) then n else a.toNat
theorem spec_cut (a0 a1 a2 a3 a4 a5 a6 a7 a8 a9 a10 a11 a12 a13 : Int) (l : List S92) (c : Int) (hl : l.length ≤ 1048576) : Ev (fun k => spec_RecordCut.f k a0 a1 a2 a3 a4 a5 a6 a7 a8 a9 a10 a11 a12 a13 l c) (disk a0 a1 a2 a3 a4 a5 a6 a7 a8 a9 a10 a11 a12 a13 (l.take (cutTo l.length c))) := by
  have hl2 : (l.take (cutTo l.length c)).length ≤ 1048576 := by rw [List.length_take]; omega
  obtain ⟨K, hK⟩ := Ev.get (spec_disk a0 a1 a2 a3 a4 a5 a6 a7 a8 a9 a10 a11 a12 a13 (l.take (cutTo l.length c)) hl2)
  refine Ev.mk' K fun k hk => ?_
  have h := hK k hk
  unfold spec_RecordCut.f
  unfold cutTo at h ⊢
  by_cases h1 : c < 0
  · rw [if_pos h1] at h ⊢
    rw [if_neg (by omega), if_pos (by omega), h, if_pos h1]; rfl
  · rw [if_neg h1] at h ⊢
    by_cases h2 : c > (l.length : Int)
    · rw [if_pos h2] at h ⊢
      rw [if_pos (by omega), if_pos (by omega), Int.toNat_natCast, h, if_neg h1, if_pos h2]; rfl
    · rw [if_neg h2] at h ⊢
      rw [if_pos (by omega), if_pos (by omega), h, if_neg h1, if_neg h2]; rfl
theorem impl_cut (a0 a1 a2 a3 a4 a5 a6 a7 a8 a9 a10 a11 a12 a13 : Int) (l : List S92) (c : Int) (hl : l.length ≤ 1048576) : impl_RecordCut.f a0 a1 a2 a3 a4 a5 a6 a7 a8 a9 a10 a11 a12 a13 l c = some (disk a0 a1 a2 a3 a4 a5 a6 a7 a8 a9 a10 a11 a12 a13 (l.take (cutTo l.length c))) := by
  have hl2 : (l.take (cutTo l.length c)).length ≤ 1048576 := by rw [List.length_take]; omega
  have h := impl_disk a0 a1 a2 a3 a4 a5 a6 a7 a8 a9 a10 a11 a12 a13 (l.take (cutTo l.length c)) hl2
  have e : mx 0 (mn c (l.length : Int)) = ((cutTo l.length c : Nat) : Int) := by
    unfold mx mn cutTo
    repeat' split
    all_goals omega
  have e2 : ((cutTo l.length c : Nat) : Int) ≤ (l.length : Int) := by
    unfold cutTo
    repeat' split
    all_goals omega
  unfold impl_RecordCut.f
  rw [e, if_pos (by omega), if_pos e2, Int.toNat_natCast, h]; rfl
theorem FnExactRecordCut : laws_FnExactRecordCut.Plain := by
  rintro a0 a1 a2 a3 a4 a5 a6 a7 a8 a9 a10 a11 a12 a13 l c _ ⟨hl, _⟩ _
  obtain ⟨r, h0, hr⟩ := sz l hl
  rcases hr with hr | ⟨hr, hlen⟩
  · refine ⟨0, ?_⟩
    unfold laws_FnExactRecordCut.f
    rw [h0, Option.bind_some, if_pos hr]
  · have hlen2 : (l.map cv).length ≤ 1048576 := by rw [List.length_map]; exact hlen
    obtain ⟨K1, h1⟩ := Ev.get (toR l hlen)
    obtain ⟨K2, h2⟩ := Ev.get (spec_cut a0 a1 a2 a3 a4 a5 a6 a7 a8 a9 a10 a11 a12 a13 (l.map cv) c hlen2)
    obtain ⟨K3, h3⟩ := Ev.get (eqR (l.map cv) hlen2)
    have h4 := impl_cut a0 a1 a2 a3 a4 a5 a6 a7 a8 a9 a10 a11 a12 a13 (l.map cv) c hlen2
    refine ⟨K1 + K2 + K3, ?_⟩
    unfold laws_FnExactRecordCut.f laws_toDisk.f laws_toSlot.f laws_toDigest.f
    rw [h0, Option.bind_some, if_neg (by omega)]
    simp only [Option.bind_some]
    rw [h1 _ (by omega)]
    simp only [Option.bind_some]
    rw [h2 _ (by omega)]
    simp only [Option.bind_some]
    rw [h4]
    simp only [Option.bind_some]
    rw [eqD]
    simp only [Option.bind_some, if_true]
    rw [h3 _ (by omega)]
    simp only [Option.bind_some, if_true]
end Go.Proofs.Ytcgfgodpiobcfaa.Pure

namespace Go.Proofs.Ytcgfgodpiobcfaa.fnExactRecordCut
open Go.ChangeShapes Go.WideShapes Go.ChangeAt Go.RowKit Go.Proofs.YtcgfgodpiobcfaaW.PrintWords Go.Proofs.Ytcgfgodpiobcfaa.R
open Go.ChangeMaps (open_string shut_string)
set_option linter.unusedVariables false
theorem own : ownKnob Try.prog.godebug = none := by kernel_rfl
theorem laidOut : laidOutB Try.prog = true := by kernel_rfl
set_option maxRecDepth 100000 in
theorem lifted (os : Os) (started : os.Started) (H : Type) (enc : TypeId × Value → H) :
    ReturnsInHanded {} Try.checked os 6 .any (Rows.fnExactRecordCutSpec.pre6 enc Try.prog Try.f6 Rows.fnExactRecordCutRow.domain false) (Rows.fnExactRecordCutSpec.post enc Try.prog Try.f6 false true false false) := by
  refine returnsInHanded_of_change_sized (C := Try.checked) own started (by kernel_rfl) Try.func6
    (ChangeSpec.witness6 (enc := enc) (C := Try.checked) false ⟨#[], #[.agg #[.int .u64 0, .int .u64 0, .int .u64 0, .int .u64 0, .int .u64 0, .int .u64 0, .int .u64 0, .int .u64 0, .int .u64 0, .int .u64 0, .int .u64 0, .int .u64 0, .int .u64 0, .int .u64 0], .slice none 0 0, .int .i64 0], []⟩ 8 (by kernel_rfl) (by kernel_rfl) (by kernel_rfl) (by kernel_rfl)) ?_
  intro W base args ds gs before hval0 hW hcnd hsz0 _
  have hval : ∀ (j : Nat) t v, Try.f6.params[j]? = some t → args[j]? = some v → Value.okWide Try.prog W .any base t v := hval0
  have hW' := hW
  obtain ⟨p, q, hA0, hV, rfl, hfz, hnd⟩ := hW
  have hA : DataW.TrodAll enc Try.prog W 0 (fun _ => true) true Try.f6.params.toList args.toList ds p := hA0
  rw [Try.params6] at hA hval
  obtain ⟨v0, vs0, d0, ds0, p0, q0, hargs, rfl, rfl, h0, r0⟩ := trodAll_cons hA
  obtain ⟨v1, vs1, d1, ds1, p1, q1, rfl, rfl, rfl, h1, r1⟩ := trodAll_cons r0
  obtain ⟨v2, vs2, d2, ds2, p2, q2, rfl, rfl, rfl, h2, r2⟩ := trodAll_cons r1
  obtain ⟨rfl, rfl, rfl⟩ := trodAll_nil r2
  obtain rfl : args = #[v0, v1, v2] := by cases args; simp_all
  obtain ⟨rfl, rfl⟩ := trodVars_none hV
  have k0 := h0
  have lt0 : ∀ x ∈ p0, x.block < W.heap.size := by obtain ⟨m, hm⟩ := k0; exact DataW.trod_lt m _ _ _ hm
  obtain ⟨C0, rfl, _⟩ := okWide_struct Try.underlying34 (hval 0 34 v0 rfl rfl)
  obtain ⟨u0, hf0⟩ := h0
  obtain ⟨y0, hK0, hG0⟩ := (opens_struct Try.underlying34 (opensF_cons rfl (by kernel_rfl) (opens_struct Try.underlying26 (opensF_cons rfl (by kernel_rfl) (opens_int Try.underlying22) (opensF_cons rfl (by kernel_rfl) (opens_int Try.underlying22) (opensF_cons rfl (by kernel_rfl) (opens_int Try.underlying22) (opensF_one rfl (by kernel_rfl) (opens_struct Try.underlying24 (opensF_cons rfl (by kernel_rfl) (opens_int Try.underlying22) (opensF_cons rfl (by kernel_rfl) (opens_int Try.underlying22) (opensF_cons rfl (by kernel_rfl) (opens_int Try.underlying22) (opensF_one rfl (by kernel_rfl) (opens_int Try.underlying22))))))))))) (opensF_one rfl (by kernel_rfl) (opens_struct Try.underlying26 (opensF_cons rfl (by kernel_rfl) (opens_int Try.underlying22) (opensF_cons rfl (by kernel_rfl) (opens_int Try.underlying22) (opensF_cons rfl (by kernel_rfl) (opens_int Try.underlying22) (opensF_one rfl (by kernel_rfl) (opens_struct Try.underlying24 (opensF_cons rfl (by kernel_rfl) (opens_int Try.underlying22) (opensF_cons rfl (by kernel_rfl) (opens_int Try.underlying22) (opensF_cons rfl (by kernel_rfl) (opens_int Try.underlying22) (opensF_one rfl (by kernel_rfl) (opens_int Try.underlying22)))))))))))))) _ _ _ _ _ _ _ _ _ hf0
  obtain ⟨E0, hE0⟩ : ∃ E, E = (Value.agg C0).cells.toList := ⟨_, rfl⟩
  rw [← hE0] at hK0
  obtain ⟨_, _, rfl, ⟨_, _, rfl, rfl, ⟨_, _, rfl, rfl, ⟨_, _, rfl, rfl, ⟨_, _, rfl, rfl, ⟨_, _, rfl, rfl, ⟨_, _, rfl, rfl, rfl⟩⟩⟩⟩⟩⟩, ⟨_, _, rfl, rfl, ⟨_, _, rfl, rfl, ⟨_, _, rfl, rfl, ⟨_, _, rfl, rfl, ⟨_, _, rfl, rfl, ⟨_, _, rfl, rfl, rfl⟩⟩⟩⟩⟩⟩⟩ := hK0
  obtain ⟨C0⟩ := C0
  simp only [Value.cells, List.cons_append, List.nil_append] at hE0
  subst hE0
  have k1 := h1
  have lt1 : ∀ x ∈ p1, x.block < W.heap.size := by obtain ⟨m, hm⟩ := k1; exact DataW.trod_lt m _ _ _ hm
  obtain ⟨b1, n1, m1, rfl⟩ := okWide_slice Try.underlying35 (hval 1 35 v1 rfl rfl)
  obtain ⟨u1, hf1⟩ := h1
  obtain ⟨l1, ⟨A1, c1, e1, hc1, hr1⟩, hG1⟩ := (opens_slice Try.underlying35 (by kernel_rfl) opensT95 95) _ _ _ _ _ _ _ _ _ hf1
  obtain ⟨rfl, rfl, rfl⟩ : b1 = A1 ∧ n1 = l1.length ∧ m1 = c1 := by simpa [Value.cells] using e1
  obtain ⟨a2, rfl, rfl, rfl, w2⟩ := open_int Try.underlying3 (hval 2 3 v2 rfl rfl) h2
  clear hA0 hval0 hsz0
  obtain ⟨k, hP⟩ := Go.Proofs.Ytcgfgodpiobcfaa.Pure.FnExactRecordCut y0.1.1 y0.1.2.1 y0.1.2.2.1 y0.1.2.2.2.1 y0.1.2.2.2.2.1 y0.1.2.2.2.2.2.1 y0.1.2.2.2.2.2.2 y0.2.1 y0.2.2.1 y0.2.2.2.1 y0.2.2.2.2.1 y0.2.2.2.2.2.1 y0.2.2.2.2.2.2.1 y0.2.2.2.2.2.2.2 l1 a2 hG0 hG1 w2
  refine (laws_FnExactRecordCut.calls k y0.1.1 y0.1.2.1 y0.1.2.2.1 y0.1.2.2.2.1 y0.1.2.2.2.2.1 y0.1.2.2.2.2.2.1 y0.1.2.2.2.2.2.2 y0.2.1 y0.2.2.1 y0.2.2.2.1 y0.2.2.2.2.1 y0.2.2.2.2.2.1 y0.2.2.2.2.2.2.1 y0.2.2.2.2.2.2.2 _ _ l1 a2 true W rfl hr1 hc1 hP).mono fun e W' ⟨he, bel0⟩ => ?_
  have bel : Below W.heap.size W W' := bel0
  subst he
  exact ⟨_, rfl, _, _, _, [], _, [], hW', trodAll_mk1 (shut_bool Try.underlying4 _), (trodAll_cons_mk (Below.trod laidOut (by kernel_rfl) (of_decide_eq_true (by kernel_rfl)) k0 bel lt0) (trodAll_cons_mk (Below.trod laidOut (by kernel_rfl) (of_decide_eq_true (by kernel_rfl)) k1 bel lt1) (trodAll_cons_mk (shut_int Try.underlying3 w2) trodAll_mk0))), rfl, bel.frame _, fun h => by cases h⟩
theorem over : Rows.fnExactRecordCutRow.holds Try.pinned (OpenSpec.ofChange Rows.fnExactRecordCutSpec) :=
  OpenClaim.holds_of_wide 6 Try.f6 rfl rfl rfl rfl rfl rfl rfl ⟨rfl, rfl, rfl, rfl, rfl⟩ rfl rfl rfl rfl rfl (by kernel_rfl) Try.func6 (by kernel_rfl)
    (of_decide_eq_true (by kernel_rfl)) (by unfold Func.isWrapper; first | (rw [if_pos (by decide +kernel)]; kernel_rfl) | (rw [if_neg (by decide +kernel)]; exact ⟨rfl, rfl⟩))
    (fun os started H enc _ => lifted os started H enc)
theorem proved : Rows.FnExactRecordCutSaid := over
#print axioms proved
end Go.Proofs.Ytcgfgodpiobcfaa.fnExactRecordCut
namespace Go.Proofs.Ytcgfgodpiobcfaa
/-- The row, under a short name, for the claim. -/
theorem fnExactRecordCut_holds : Rows.FnExactRecordCutSaid := fnExactRecordCut.proved
end Go.Proofs.Ytcgfgodpiobcfaa
