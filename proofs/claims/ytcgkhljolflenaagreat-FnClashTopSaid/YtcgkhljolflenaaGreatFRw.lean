/- The draws of words and digests. No condition but each theorem's own. -/
import Derived.Test.YtcgkhljolflenaaGreatFRt
import Derived.Test.YtcgkhljolflenaaGreatFU
namespace Go.Proofs.YtcgkhljolflenaaGreatW.V
open Go Go.Proofs
set_option linter.unusedSimpArgs false
set_option linter.unusedVariables false
set_option maxRecDepth 8000
set_option maxHeartbeats 4000000


def H_spec_l1Rd_word : Hint := { fs := [], kp := [(0, [0]), (1, [0]), (2, [0, 3]), (3, [0]), (4, [0, 3]), (5, [0]), (6, [0]), (7, [0, 4]), (8, [0, 4, 5]), (10, [0, 4, 5]), (9, [0, 4, 5]), (11, [4])], an := [], rs := [(16, RPick)] }
attribute [go_sem] H_spec_l1Rd_word
theorem ok_H_spec_l1Rd_word : H_spec_l1Rd_word.ok Tryz.prog := AllOk.okR .nil (.cons ok_spec_l1Rd_pick .nil) mix
theorem f_word (b : List UInt8) (p : Int) (h0 : 0 ≤ p) (h1 : p + 10 ≤ rdM) : ∃ t : UInt64 × Int, (p ≤ t.2 ∧ t.2 ≤ p + 10 ∧ True) ∧ VFun Tryz.prog 95 [rdP] [some (rdR b p)] (eU64.enc t.1) [some (rdR b t.2)] := by
  unfold rdM at h1
  refine VFun_rel (n := 30) (rs := [.tmp 2]) Tryz.func95 rfl rfl rfl rfl H_spec_l1Rd_word ok_H_spec_l1Rd_word  (rin := [rdR b p]) (T := UInt64 × Int) eU64 (fun t => t.1) (fun t => [some (rdR b t.2)]) (fun t => p ≤ t.2 ∧ t.2 ≤ p + 10 ∧ True) (Nat.le_of_ble_eq_true rfl) (by kernel_rfl) ?_
  simp only [go_sem, ↓reduceIte, reduceCtorEq, Nat.reduceAdd, Nat.reduceMul, Nat.reduceEqDiff, Nat.reduceSub, Nat.reduceLT, Nat.reduceLeDiff, Nat.reduceAnd, Nat.reduceShiftRight, Nat.reduceBEq, Nat.reduceBNe, Nat.reduceBneDiff, Nat.reduceBeqDiff, Int.reduceToNat, Int.reduceLE, Int.reduceLT, Int.reduceEq, wrapU]
  refine ⟨by omega, ?_⟩; rintro k0 p0 a0
  refine ite_intro (fun c => ?_) fun c => ?_
  · refine ⟨by omega, ?_⟩; rintro v q g
    exact ⟨(uOf v, q), by dsimp only; omega, rfl, rfl⟩
  refine ite_intro (fun c => ?_) fun c => ?_
  · refine ⟨by omega, ?_⟩; rintro v q g
    exact ⟨(_, q), by dsimp only; omega, rfl, rfl⟩
  refine LoopV.go (H := H_spec_l1Rd_word) ok_H_spec_l1Rd_word (by kernel_rfl) (fun y : UInt64 × Nat × Int => ⟨[(0, rdP), (4, sc (.int .u64 y.1.toNat)), (5, sc (.int .i64 y.2.1))], [((0, 0), rdR b y.2.2)], 2⟩) (fun y => 8 - y.2.1) (fun y => y.2.1 ≤ 8 ∧ p ≤ y.2.2 ∧ y.2.2 ≤ p + 1 + y.2.1) ?_ (0, 0, p0) ⟨by dsimp only; omega, by dsimp only; omega, by dsimp only; omega⟩
  rintro ⟨w, i, q⟩ ⟨j1, j2, j3⟩
  dsimp only at j1 j2 j3
  have hw : IntKind.i64.wrap ((i : Int) + 1) = ((i + 1 : Nat) : Int) := by rw [wrap64] <;> omega
  by_cases hlt : (i : Int) < 8
  · simp only [go_sem, ↓reduceIte, reduceCtorEq, Nat.reduceAdd, Nat.reduceMul, Nat.reduceEqDiff, Nat.reduceSub, Nat.reduceLT, Nat.reduceLeDiff, Nat.reduceAnd, Nat.reduceShiftRight, Nat.reduceBEq, Nat.reduceBNe, Nat.reduceBneDiff, Nat.reduceBeqDiff, Int.reduceToNat, Int.reduceLE, Int.reduceLT, Int.reduceEq, hlt, hw, wrapU]
    refine ⟨by omega, ?_⟩; rintro v q' g
    exact ⟨(_, i + 1, q'), ⟨by dsimp only; omega, by dsimp only; omega, by dsimp only; omega⟩, by dsimp only; omega, rfl⟩
  · simp only [go_sem, ↓reduceIte, reduceCtorEq, Nat.reduceAdd, Nat.reduceMul, Nat.reduceEqDiff, Nat.reduceSub, Nat.reduceLT, Nat.reduceLeDiff, Nat.reduceAnd, Nat.reduceShiftRight, Nat.reduceBEq, Nat.reduceBNe, Nat.reduceBneDiff, Nat.reduceBeqDiff, Int.reduceToNat, Int.reduceLE, Int.reduceLT, Int.reduceEq, hlt]
    exact ⟨(w, q), by dsimp only; omega, rfl, rfl⟩
abbrev RWord : FR := .rd0 eU64.enc 10 (fun _ => True)
attribute [go_sem] RWord
theorem ok_spec_l1Rd_word : RWord.ok Tryz.prog 95 := FR.rd0_ok fun b p h0 h1 => f_word b p h0 h1

def H_spec_l1Rd_digest : Hint := { fs := [], kp := [(0, [0]), (1, [0, 2]), (2, [0, 2, 3]), (3, [0, 2, 3, 4]), (4, [0, 2, 3, 4, 5])], an := [], rs := [(95, RWord)] }
attribute [go_sem] H_spec_l1Rd_digest
theorem ok_H_spec_l1Rd_digest : H_spec_l1Rd_digest.ok Tryz.prog := AllOk.okR .nil (.cons ok_spec_l1Rd_word .nil) mix
theorem f_digest (b : List UInt8) (p : Int) (h0 : 0 ≤ p) (h1 : p + 40 ≤ rdM) : ∃ t : Digest × Int, (p ≤ t.2 ∧ t.2 ≤ p + 40 ∧ True) ∧ VFun Tryz.prog 51 [rdP] [some (rdR b p)] ((CE.st cDigest).enc t.1) [some (rdR b t.2)] := by
  unfold rdM at h1
  refine VFun_rel (n := 18) (rs := [.cell 2 25]) Tryz.func51 rfl rfl rfl rfl H_spec_l1Rd_digest ok_H_spec_l1Rd_digest  (rin := [rdR b p]) (T := Digest × Int) (CE.st cDigest) (fun t => t.1) (fun t => [some (rdR b t.2)]) (fun t => p ≤ t.2 ∧ t.2 ≤ p + 40 ∧ True) (Nat.le_of_ble_eq_true rfl) (by kernel_rfl) ?_
  simp only [go_sem, ↓reduceIte, reduceCtorEq, Nat.reduceAdd, Nat.reduceMul, Nat.reduceEqDiff, Nat.reduceSub, Nat.reduceLT, Nat.reduceLeDiff, Nat.reduceAnd, Nat.reduceShiftRight, Nat.reduceBEq, Nat.reduceBNe, Nat.reduceBneDiff, Nat.reduceBeqDiff, Int.reduceToNat, Int.reduceLE, Int.reduceLT, Int.reduceEq]
  refine ⟨by omega, ?_⟩; rintro a0 p0 g0
  refine ⟨by omega, ?_⟩; rintro a1 p1 g1
  refine ⟨by omega, ?_⟩; rintro a2 p2 g2
  refine ⟨by omega, ?_⟩; rintro a3 p3 g3
  exact ⟨((a0, a1, a2, a3), p3), by dsimp only; omega, rfl, rfl⟩
abbrev RDigest : FR := .rd0 (CE.st cDigest).enc 40 (fun _ => True)
attribute [go_sem] RDigest
theorem ok_spec_l1Rd_digest : RDigest.ok Tryz.prog 51 := FR.rd0_ok fun b p h0 h1 => f_digest b p h0 h1

end Go.Proofs.YtcgkhljolflenaaGreatW.V

