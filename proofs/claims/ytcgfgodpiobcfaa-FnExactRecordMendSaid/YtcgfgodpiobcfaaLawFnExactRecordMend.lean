/- The law FnExactRecordMend of the given program returns true at every input that reads as data of its parameters' types, and leaves its arguments as they were. No condition besides. -/
import Derived.Test.YtcgfgodpiobcfaaMD
import Derived.Test.YtcgfgodpiobcfaaWOpen
import Derived.KernelRfl
import Derived.Test.YtcgfgodpiobcfaaMRec
import Derived.Test.YtcgfgodpiobcfaaMx28
import Derived.Test.YtcgfgodpiobcfaaRows
import Derived.Test.YtcgfgodpiobcfaaMx31
import Derived.WalkKit
import Derived.ProofKit
import Derived.OpenShut
import Derived.ShutString
import Derived.ChangeOld
import Derived.Below
import Derived.SizedLaws
import Derived.Carry
namespace Go.Proofs.Ytcgfgodpiobcfaa.M
open Go.RowKit Go.Proofs.YtcgfgodpiobcfaaW.PrintWords Go.Proofs.YtcgfgodpiobcfaaW.PrintLast
set_option linter.unusedVariables false
/-- The one plain statement of this law. -/
def laws_FnExactRecordMend.Plain : Prop := ∀ (a0_0 : Int) (a0_1 : Int) (a0_2 : Int) (a0_3 : Int) (a0_4 : Int) (a0_5 : Int) (a0_6 : Int) (a0_7 : Int) (a0_8 : Int) (a0_9 : Int) (a0_10 : Int) (a0_11 : Int) (a0_12 : Int) (a0_13 : Int), (((Lit.int .u64 a0_0).wf = true ∧ (Lit.int .u64 a0_1).wf = true ∧ (Lit.int .u64 a0_2).wf = true ∧ ((Lit.int .u64 a0_3).wf = true ∧ (Lit.int .u64 a0_4).wf = true ∧ (Lit.int .u64 a0_5).wf = true ∧ (Lit.int .u64 a0_6).wf = true)) ∧ ((Lit.int .u64 a0_7).wf = true ∧ (Lit.int .u64 a0_8).wf = true ∧ (Lit.int .u64 a0_9).wf = true ∧ ((Lit.int .u64 a0_10).wf = true ∧ (Lit.int .u64 a0_11).wf = true ∧ (Lit.int .u64 a0_12).wf = true ∧ (Lit.int .u64 a0_13).wf = true))) → ∃ k, laws_FnExactRecordMend.f k a0_0 a0_1 a0_2 a0_3 a0_4 a0_5 a0_6 a0_7 a0_8 a0_9 a0_10 a0_11 a0_12 a0_13 = some true
end Go.Proofs.Ytcgfgodpiobcfaa.M

namespace Go.Proofs.Ytcgfgodpiobcfaa.Pure
open Go.RowKit Go.Proofs.Ytcgfgodpiobcfaa.M Go.Proofs.Ytcgfgodpiobcfaa.Hash Go.Proofs.YtcgfgodpiobcfaaW.PrintWords Go.Proofs.YtcgfgodpiobcfaaW.PrintLast
set_option linter.unusedSimpArgs false
set_option linter.unusedVariables false
theorem rdR (l : List S92) (i : Nat) (h : i < l.length) : rd_T92 l (i : Int) = l[i] := by unfold rd_T92; rw [Int.toNat_natCast, getD_lt _ _ _ h]
theorem eqR (l : List S92) (hl : l.length ≤ 1048576) : Ev (fun k => laws_eqRawS.f k l l) true := by
  have h := down (n := l.length) (P := fun i => Ev (fun k => laws_eqRawS.l0 k l l (i : Int)) true) ?_ ?_
  · obtain ⟨K, hK⟩ := Ev.get h
    refine Ev.mk' K fun k hk => ?_
    unfold laws_eqRawS.f
    rw [if_pos rfl]
    exact hK k hk
  · refine Ev.mk' 1 fun k hk => ?_
    obtain ⟨m, rfl⟩ : ∃ m, k = m + 1 := ⟨k - 1, by omega⟩
    simp only [laws_eqRawS.l0]
    rw [if_neg (by omega)]
  · rintro i hi hev
    obtain ⟨K, hK⟩ := Ev.get hev
    refine Ev.mk' (K + 1) fun k hk => ?_
    obtain ⟨m, rfl⟩ : ∃ m, k = m + 1 := ⟨k - 1, by omega⟩
    simp only [laws_eqRawS.l0, laws_eqRaw.f]
    rw [if_pos (by omega), if_pos (by omega), if_pos (by omega), if_pos trivial, if_pos trivial, if_pos trivial, Option.bind_some, if_pos rfl, wrap_succ i (by omega)]
    exact hK m (by omega)

def m3 (i : Nat) : S92 := ⟨1 + 3 * (i : Int), 1 + 3 * (i : Int) + 1, 1 + 3 * (i : Int) + 1 + 1⟩
def marks3 (n : Nat) : List S92 := (List.range n).map m3
theorem marks3_len (n : Nat) : (marks3 n).length = n := by simp [marks3]
theorem marks3_succ (n : Nat) : marks3 (n + 1) = marks3 n ++ [m3 n] := by simp [marks3, List.range_succ]
theorem marks3_at (n i : Nat) (h : i < n) : rd_T92 (marks3 n) (i : Int) = m3 i := by
  rw [rdR _ i (by rw [marks3_len]; exact h)]
  simp [marks3]
theorem wrapU (n : Int) (h0 : 0 ≤ n) (h1 : n < 18446744073709551616) : IntKind.u64.wrap n = n := by rw [IntKind.wrap_u64]; omega
theorem markR (l : List S92) (hl : l.length ≤ 1048576) : Ev (fun k => laws_markRawS.f k l 1) (1 + 3 * (l.length : Int), marks3 l.length) := by
  have h := down (n := l.length) (P := fun i => Ev (fun k => laws_markRawS.l0 k (marks3 i ++ l.drop i) (1 + 3 * (i : Int)) (i : Int)) (1 + 3 * (l.length : Int), marks3 l.length)) ?_ ?_
  · simpa [marks3, laws_markRawS.f] using h
  · refine Ev.mk' 1 fun k hk => ?_
    obtain ⟨m, rfl⟩ : ∃ m, k = m + 1 := ⟨k - 1, by omega⟩
    simp only [laws_markRawS.l0]
    rw [if_neg (by rw [List.length_append, marks3_len, List.length_drop]; omega), List.drop_length, List.append_nil]
  · rintro i hi hev
    obtain ⟨K, hK⟩ := Ev.get hev
    refine Ev.mk' (K + 1) fun k hk => ?_
    obtain ⟨m, rfl⟩ : ∃ m, k = m + 1 := ⟨k - 1, by omega⟩
    have h2 := hK m (by omega)
    rw [marks3_succ, List.append_assoc, List.singleton_append] at h2
    have hd : l.drop i = l[i] :: l.drop (i + 1) := List.drop_eq_getElem_cons hi
    have ha := marks3_len i
    have s : ∀ v u : S92, (marks3 i ++ v :: l.drop (i + 1)).set i u = marks3 i ++ u :: l.drop (i + 1) := fun v u => by
      have := set_mid (marks3 i) (l.drop (i + 1)) v u
      rw [ha, List.append_assoc] at this
      exact this
    have g : ∀ v : S92, rd_T92 (marks3 i ++ v :: l.drop (i + 1)) (i : Int) = v := fun v => by
      rw [rdR _ i (by rw [List.length_append, ha]; simp)]
      simp [ha]
    have w1 : wrap64 (1 + 3 * (i : Int) + 1) = 1 + 3 * (i : Int) + 1 := wrap_of (by omega) (by omega)
    have w2 : wrap64 (1 + 3 * (i : Int) + 1 + 1) = 1 + 3 * (i : Int) + 1 + 1 := wrap_of (by omega) (by omega)
    have w3 : wrap64 (1 + 3 * (i : Int) + 1 + 1 + 1) = 1 + 3 * ((i + 1 : Nat) : Int) := by rw [wrap_of (by omega) (by omega)]; omega
    have w4 : IntKind.u64.wrap (1 + 3 * (i : Int) + 1 + 1) = 1 + 3 * (i : Int) + 1 + 1 := wrapU _ (by omega) (by omega)
    have c0 : (i : Int) < ((marks3 i ++ l[i] :: l.drop (i + 1)).length : Int) := by rw [List.length_append, ha]; simp; omega
    have c1 : (0 : Int) ≤ (i : Int) := by omega
    rw [hd]
    simp only [laws_markRawS.l0, if_pos c0, if_pos c1, Option.bind_some, Int.toNat_natCast, s, g, w1, w2, w3, w4, wrap_succ i (by omega)]
    exact h2
theorem heldR (n : Nat) (hl : n ≤ 1048576) : Ev (fun k => laws_heldRawS.f k (marks3 n) 1) (1 + 3 * (n : Int)) := by
  have h := down (n := n) (P := fun i => Ev (fun k => laws_heldRawS.l0 k (marks3 n) (1 + 3 * (i : Int)) (i : Int)) (1 + 3 * (n : Int))) ?_ ?_
  · simpa [laws_heldRawS.f] using h
  · refine Ev.mk' 1 fun k hk => ?_
    obtain ⟨m, rfl⟩ : ∃ m, k = m + 1 := ⟨k - 1, by omega⟩
    simp only [laws_heldRawS.l0]
    rw [if_neg (by rw [marks3_len]; omega)]
  · rintro i hi hev
    obtain ⟨K, hK⟩ := Ev.get hev
    refine Ev.mk' (K + 1) fun k hk => ?_
    obtain ⟨m, rfl⟩ : ∃ m, k = m + 1 := ⟨k - 1, by omega⟩
    have h2 := hK m (by omega)
    have w1 : wrap64 (1 + 3 * (i : Int) + 1) = 1 + 3 * (i : Int) + 1 := wrap_of (by omega) (by omega)
    have w2 : wrap64 (1 + 3 * (i : Int) + 1 + 1) = 1 + 3 * (i : Int) + 1 + 1 := wrap_of (by omega) (by omega)
    have w3 : wrap64 (1 + 3 * (i : Int) + 1 + 1 + 1) = 1 + 3 * ((i + 1 : Nat) : Int) := by rw [wrap_of (by omega) (by omega)]; omega
    have w4 : IntKind.u64.wrap (1 + 3 * (i : Int) + 1 + 1) = 1 + 3 * (i : Int) + 1 + 1 := wrapU _ (by omega) (by omega)
    have c0 : (i : Int) < ((marks3 n).length : Int) := by rw [marks3_len]; omega
    have c1 : (0 : Int) ≤ (i : Int) := by omega
    simp only [laws_heldRawS.l0, if_pos c0, if_pos c1, marks3_at n i hi, w1, w2, w3, w4, wrap_succ i (by omega)]
    simp only [m3, if_true]
    exact h2
theorem clear_ev (at_ a0 a1 a2 a3 a4 a5 a6 : Int) : Ev (fun k => spec_l7Clear.f k at_ a0 a1 a2 a3 a4 a5 a6) (if slotOk a0 a1 a2 a3 a4 a5 a6 = true then [] else clear_list.f at_ [a0, a1, a2, a3, a4, a5, a6] 7) := by
  obtain ⟨K, h⟩ := Ev.get (spec_slotOk a0 a1 a2 a3 a4 a5 a6)
  refine Ev.mk' K fun k hk => ?_
  unfold spec_l7Clear.f
  rw [h k hk, Option.bind_some]
  split <;> rfl
theorem joinL (l : List S92) (hl : l.length ≤ 7) (n : Nat) : ∀ (i : Nat) (x : List S92), i + n = l.length → x.length ≤ 7 + i → Ev (fun k => spec_RecordMend.l0 k x l (i : Int)) (x ++ l.drop i) := by
  induction n with
  | zero =>
    intro i x hi hx
    refine Ev.mk' 1 fun k hk => ?_
    obtain ⟨m, rfl⟩ : ∃ m, k = m + 1 := ⟨k - 1, by omega⟩
    simp only [spec_RecordMend.l0]
    rw [if_neg (by omega), List.drop_of_length_le (by omega), List.append_nil]
  | succ n ih =>
    intro i x hi hx
    have hlt : i < l.length := by omega
    obtain ⟨K, hK⟩ := Ev.get (ih (i + 1) (x ++ [l[i]]) (by omega) (by rw [List.length_append]; simp; omega))
    refine Ev.mk' (K + 1) fun k hk => ?_
    obtain ⟨m, rfl⟩ : ∃ m, k = m + 1 := ⟨k - 1, by omega⟩
    have h2 := hK m (by omega)
    simp only [spec_RecordMend.l0]
    rw [if_pos (by omega), if_pos (by omega), if_pos (by omega), rdR l i hlt, wrap_succ i (by omega), List.drop_eq_getElem_cons hlt]
    rw [List.append_assoc, List.singleton_append] at h2
    exact h2
theorem spec_mend (a0 a1 a2 a3 a4 a5 a6 b0 b1 b2 b3 b4 b5 b6 : Int) : Ev (fun k => spec_RecordMend.f k a0 a1 a2 a3 a4 a5 a6 b0 b1 b2 b3 b4 b5 b6) (mend_pre.f (slotOk a0 a1 a2 a3 a4 a5 a6) (slotOk b0 b1 b2 b3 b4 b5 b6) [a0, a1, a2, a3, a4, a5, a6] [b0, b1, b2, b3, b4, b5, b6] 2) := by
  obtain ⟨K1, h1⟩ := Ev.get (clear_ev 1 a0 a1 a2 a3 a4 a5 a6)
  obtain ⟨K2, h2⟩ := Ev.get (clear_ev 2 b0 b1 b2 b3 b4 b5 b6)
  have l1 : (if slotOk a0 a1 a2 a3 a4 a5 a6 = true then [] else clear_list.f 1 [a0, a1, a2, a3, a4, a5, a6] 7).length ≤ 7 := by
    have := clear_list_len 1 [a0, a1, a2, a3, a4, a5, a6] 7
    split
    · simp
    · exact this
  have l2 : (if slotOk b0 b1 b2 b3 b4 b5 b6 = true then [] else clear_list.f 2 [b0, b1, b2, b3, b4, b5, b6] 7).length ≤ 7 := by
    have := clear_list_len 2 [b0, b1, b2, b3, b4, b5, b6] 7
    split
    · simp
    · exact this
  obtain ⟨K3, h3⟩ := Ev.get (joinL _ l2 _ 0 _ (Nat.zero_add _) (by omega : (if slotOk a0 a1 a2 a3 a4 a5 a6 = true then [] else clear_list.f 1 [a0, a1, a2, a3, a4, a5, a6] 7).length ≤ 7 + 0))
  refine Ev.mk' (K1 + K2 + K3) fun k hk => ?_
  unfold spec_RecordMend.f
  rw [h1 k (by omega), Option.bind_some, h2 k (by omega), Option.bind_some]
  exact h3 k (by omega)
theorem impl_mend (a0 a1 a2 a3 a4 a5 a6 b0 b1 b2 b3 b4 b5 b6 : Int) : Ev (fun k => impl_RecordMend.f k a0 a1 a2 a3 a4 a5 a6 b0 b1 b2 b3 b4 b5 b6) (mend_pre.f (slotOk a0 a1 a2 a3 a4 a5 a6) (slotOk b0 b1 b2 b3 b4 b5 b6) [a0, a1, a2, a3, a4, a5, a6] [b0, b1, b2, b3, b4, b5, b6] 2) := by
  obtain ⟨K1, h1⟩ := Ev.get (impl_slotOk a0 a1 a2 a3 a4 a5 a6)
  obtain ⟨K2, h2⟩ := Ev.get (impl_slotOk b0 b1 b2 b3 b4 b5 b6)
  refine Ev.mk' (K1 + K2) fun k hk => ?_
  unfold impl_RecordMend.f
  rw [h1 k (by omega), Option.bind_some, h2 k (by omega), Option.bind_some]
theorem FnExactRecordMend : laws_FnExactRecordMend.Plain := by
  rintro a0 a1 a2 a3 a4 a5 a6 b0 b1 b2 b3 b4 b5 b6 _
  obtain ⟨K1, h1⟩ := Ev.get (spec_mend a0 a1 a2 a3 a4 a5 a6 b0 b1 b2 b3 b4 b5 b6)
  obtain ⟨K2, h2⟩ := Ev.get (impl_mend a0 a1 a2 a3 a4 a5 a6 b0 b1 b2 b3 b4 b5 b6)
  have hlen := pre_len (slotOk a0 a1 a2 a3 a4 a5 a6) (slotOk b0 b1 b2 b3 b4 b5 b6) [a0, a1, a2, a3, a4, a5, a6] [b0, b1, b2, b3, b4, b5, b6] 2
  generalize mend_pre.f (slotOk a0 a1 a2 a3 a4 a5 a6) (slotOk b0 b1 b2 b3 b4 b5 b6) [a0, a1, a2, a3, a4, a5, a6] [b0, b1, b2, b3, b4, b5, b6] 2 = L at h1 h2 hlen
  obtain ⟨K3, h3⟩ := Ev.get (eqR L (by omega))
  obtain ⟨K4, h4⟩ := Ev.get (markR L (by omega))
  obtain ⟨K5, h5⟩ := Ev.get (heldR L.length (by omega))
  refine ⟨K1 + K2 + K3 + K4 + K5, ?_⟩
  have g1 := h1 (K1 + K2 + K3 + K4 + K5) (by omega)
  have g2 := h2 (K1 + K2 + K3 + K4 + K5) (by omega)
  have g3 := h3 (K1 + K2 + K3 + K4 + K5) (by omega)
  have g4 := h4 (K1 + K2 + K3 + K4 + K5) (by omega)
  have g5 := h5 (K1 + K2 + K3 + K4 + K5) (by omega)
  have hn : ¬ (1 + 3 * (L.length : Int) < 0) := by omega
  unfold laws_FnExactRecordMend.f laws_toDisk.f laws_toSlot.f laws_toDigest.f
  simp only [Option.bind_some, g1, g2, g3, g4, g5, if_true, if_neg hn]

end Go.Proofs.Ytcgfgodpiobcfaa.Pure

namespace Go.Proofs.Ytcgfgodpiobcfaa.fnExactRecordMend
open Go.ChangeShapes Go.WideShapes Go.ChangeAt Go.RowKit Go.Proofs.YtcgfgodpiobcfaaW.PrintWords Go.Proofs.Ytcgfgodpiobcfaa.M
open Go.ChangeMaps (open_string shut_string)
set_option linter.unusedVariables false
theorem own : ownKnob Try.prog.godebug = none := by kernel_rfl
theorem laidOut : laidOutB Try.prog = true := by kernel_rfl
set_option maxRecDepth 100000 in
theorem lifted (os : Os) (started : os.Started) (H : Type) (enc : TypeId × Value → H) :
    ReturnsInHanded {} Try.checked os 10 .any (Rows.fnExactRecordMendSpec.pre6 enc Try.prog Try.f10 Rows.fnExactRecordMendRow.domain false) (Rows.fnExactRecordMendSpec.post enc Try.prog Try.f10 false true false false) := by
  refine returnsInHanded_of_change_sized (C := Try.checked) own started (by kernel_rfl) Try.func10
    (ChangeSpec.witness6 (enc := enc) (C := Try.checked) false ⟨#[], #[.agg #[.int .u64 0, .int .u64 0, .int .u64 0, .int .u64 0, .int .u64 0, .int .u64 0, .int .u64 0, .int .u64 0, .int .u64 0, .int .u64 0, .int .u64 0, .int .u64 0, .int .u64 0, .int .u64 0]], []⟩ 8 (by kernel_rfl) (by kernel_rfl) (by kernel_rfl) (by kernel_rfl)) ?_
  intro W base args ds gs before hval0 hW hcnd hsz0 _
  have hval : ∀ (j : Nat) t v, Try.f10.params[j]? = some t → args[j]? = some v → Value.okWide Try.prog W .any base t v := hval0
  have hW' := hW
  obtain ⟨p, q, hA0, hV, rfl, hfz, hnd⟩ := hW
  have hA : DataW.TrodAll enc Try.prog W 0 (fun _ => true) true Try.f10.params.toList args.toList ds p := hA0
  rw [Try.params10] at hA hval
  obtain ⟨v0, vs0, d0, ds0, p0, q0, hargs, rfl, rfl, h0, r0⟩ := trodAll_cons hA
  obtain ⟨rfl, rfl, rfl⟩ := trodAll_nil r0
  obtain rfl : args = #[v0] := by cases args; simp_all
  obtain ⟨rfl, rfl⟩ := trodVars_none hV
  have k0 := h0
  have lt0 : ∀ x ∈ p0, x.block < W.heap.size := by obtain ⟨m, hm⟩ := k0; exact DataW.trod_lt m _ _ _ hm
  obtain ⟨C0, rfl, _⟩ := okWide_struct Try.underlying34 (hval 0 34 v0 rfl rfl)
  obtain ⟨u0, hf0⟩ := h0
  obtain ⟨y0, hK0, hG0⟩ := (opens_struct Try.underlying34 (opensF_cons rfl (by kernel_rfl) (opens_struct Try.underlying26 (opensF_cons rfl (by kernel_rfl) (opens_int Try.underlying22) (opensF_cons rfl (by kernel_rfl) (opens_int Try.underlying22) (opensF_cons rfl (by kernel_rfl) (opens_int Try.underlying22) (opensF_one rfl (by kernel_rfl) (opens_struct Try.underlying24 (opensF_cons rfl (by kernel_rfl) (opens_int Try.underlying22) (opensF_cons rfl (by kernel_rfl) (opens_int Try.underlying22) (opensF_cons rfl (by kernel_rfl) (opens_int Try.underlying22) (opensF_one rfl (by kernel_rfl) (opens_int Try.underlying22))))))))))) (opensF_one rfl (by kernel_rfl) (opens_struct Try.underlying26 (opensF_cons rfl (by kernel_rfl) (opens_int Try.underlying22) (opensF_cons rfl (by kernel_rfl) (opens_int Try.underlying22) (opensF_cons rfl (by kernel_rfl) (opens_int Try.underlying22) (opensF_one rfl (by kernel_rfl) (opens_struct Try.underlying24 (opensF_cons rfl (by kernel_rfl) (opens_int Try.underlying22) (opensF_cons rfl (by kernel_rfl) (opens_int Try.underlying22) (opensF_cons rfl (by kernel_rfl) (opens_int Try.underlying22) (opensF_one rfl (by kernel_rfl) (opens_int Try.underlying22)))))))))))))) _ _ _ _ _ _ _ _ _ hf0
  obtain ⟨E0, hE0⟩ : ∃ E, E = (Value.agg C0).cells.toList := ⟨_, rfl⟩
  rw [← hE0] at hK0
  obtain ⟨_, _, rfl, ⟨_, _, rfl, rfl, ⟨_, _, rfl, rfl, ⟨_, _, rfl, rfl, ⟨_, _, rfl, rfl, ⟨_, _, rfl, rfl, ⟨_, _, rfl, rfl, rfl⟩⟩⟩⟩⟩⟩, ⟨_, _, rfl, rfl, ⟨_, _, rfl, rfl, ⟨_, _, rfl, rfl, ⟨_, _, rfl, rfl, ⟨_, _, rfl, rfl, ⟨_, _, rfl, rfl, rfl⟩⟩⟩⟩⟩⟩⟩ := hK0
  obtain ⟨C0⟩ := C0
  simp only [Value.cells, List.cons_append, List.nil_append] at hE0
  subst hE0
  clear hA0 hval0 hsz0
  obtain ⟨k, hP⟩ := Go.Proofs.Ytcgfgodpiobcfaa.Pure.FnExactRecordMend y0.1.1 y0.1.2.1 y0.1.2.2.1 y0.1.2.2.2.1 y0.1.2.2.2.2.1 y0.1.2.2.2.2.2.1 y0.1.2.2.2.2.2.2 y0.2.1 y0.2.2.1 y0.2.2.2.1 y0.2.2.2.2.1 y0.2.2.2.2.2.1 y0.2.2.2.2.2.2.1 y0.2.2.2.2.2.2.2 hG0
  refine (laws_FnExactRecordMend.calls k y0.1.1 y0.1.2.1 y0.1.2.2.1 y0.1.2.2.2.1 y0.1.2.2.2.2.1 y0.1.2.2.2.2.2.1 y0.1.2.2.2.2.2.2 y0.2.1 y0.2.2.1 y0.2.2.2.1 y0.2.2.2.2.1 y0.2.2.2.2.2.1 y0.2.2.2.2.2.2.1 y0.2.2.2.2.2.2.2 true W rfl hP).mono fun e W' ⟨he, bel0⟩ => ?_
  have bel : Below W.heap.size W W' := bel0
  subst he
  exact ⟨_, rfl, _, _, _, [], _, [], hW', trodAll_mk1 (shut_bool Try.underlying4 _), (trodAll_cons_mk (Below.trod laidOut (by kernel_rfl) (of_decide_eq_true (by kernel_rfl)) k0 bel lt0) trodAll_mk0), rfl, bel.frame _, fun h => by cases h⟩
theorem over : Rows.fnExactRecordMendRow.holds Try.pinned (OpenSpec.ofChange Rows.fnExactRecordMendSpec) :=
  OpenClaim.holds_of_wide 10 Try.f10 rfl rfl rfl rfl rfl rfl rfl ⟨rfl, rfl, rfl, rfl, rfl⟩ rfl rfl rfl rfl rfl (by kernel_rfl) Try.func10 (by kernel_rfl)
    (of_decide_eq_true (by kernel_rfl)) (by unfold Func.isWrapper; first | (rw [if_pos (by decide +kernel)]; kernel_rfl) | (rw [if_neg (by decide +kernel)]; exact ⟨rfl, rfl⟩))
    (fun os started H enc _ => lifted os started H enc)
theorem proved : Rows.FnExactRecordMendSaid := over
#print axioms proved
end Go.Proofs.Ytcgfgodpiobcfaa.fnExactRecordMend
namespace Go.Proofs.Ytcgfgodpiobcfaa
/-- The row, under a short name, for the claim. -/
theorem fnExactRecordMend_holds : Rows.FnExactRecordMendSaid := fnExactRecordMend.proved
end Go.Proofs.Ytcgfgodpiobcfaa
