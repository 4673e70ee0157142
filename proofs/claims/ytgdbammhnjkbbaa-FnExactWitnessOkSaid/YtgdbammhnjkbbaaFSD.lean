/- The draws of disks: of what is drawn only the bounds are said. No condition but each theorem's own. -/
import Derived.Test.YtgdbammhnjkbbaaFSZ
namespace Go.Proofs.YtgdbammhnjkbbaaW.V
open Go Go.Proofs
set_option linter.unusedSimpArgs false
set_option linter.unusedVariables false
set_option maxRecDepth 8000
set_option maxHeartbeats 4000000

def H_spec_l1Rd_word : Hint := { fs := [], kp := [(0, [0]), (1, [0]), (2, [0, 3]), (3, [0]), (4, [0, 3]), (5, [0]), (6, [0]), (7, [0, 4]), (8, [0, 4, 5]), (10, [0, 4, 5]), (9, [0, 4, 5]), (11, [4])], an := [], rs := [(46, RPick)] }
attribute [go_sem] H_spec_l1Rd_word
theorem ok_H_spec_l1Rd_word : H_spec_l1Rd_word.ok Try.prog := AllOk.okR .nil (.cons ok_spec_l1Rd_pick .nil) mix
theorem f_word (b : List UInt8) (p : Int) (h0 : 0 ≤ p) (h1 : p + 10 ≤ rdM) : ∃ t : UInt64 × Int, (p ≤ t.2 ∧ t.2 ≤ p + 10 ∧ True) ∧ VFun Try.prog 60 [rdP] [some (rdR b p)] (eU64.enc t.1) [some (rdR b t.2)] := by
  unfold rdM at h1
  refine VFun_rel (n := 30) (rs := [.tmp 2]) Try.func60 rfl rfl rfl rfl H_spec_l1Rd_word ok_H_spec_l1Rd_word  (rin := [rdR b p]) (T := UInt64 × Int) eU64 (fun t => t.1) (fun t => [some (rdR b t.2)]) (fun t => p ≤ t.2 ∧ t.2 ≤ p + 10 ∧ True) (Nat.le_of_ble_eq_true rfl) (by kernel_rfl) ?_
  simp only [go_sem, ↓reduceIte, reduceCtorEq, Nat.reduceAdd, Nat.reduceMul, Nat.reduceEqDiff, Nat.reduceSub, Nat.reduceLT, Nat.reduceLeDiff, Nat.reduceAnd, Nat.reduceShiftRight, Nat.reduceBEq, Nat.reduceBNe, Nat.reduceBneDiff, Nat.reduceBeqDiff, Int.reduceToNat, Int.reduceLE, Int.reduceLT, Int.reduceEq, wrapU]
  refine ⟨by omega, ?_⟩; rintro k0 p0 a0
  refine ite_intro (fun c => ?_) fun c => ?_
  · refine ⟨by omega, ?_⟩; rintro v q g
    exact ⟨(uOf v, q), by dsimp only; omega, rfl, rfl⟩
  refine ite_intro (fun c => ?_) fun c => ?_
  · refine ⟨by omega, ?_⟩; rintro v q g
    exact ⟨(_, q), by dsimp only; omega, rfl, rfl⟩
  refine LoopV.go (H := H_spec_l1Rd_word) ok_H_spec_l1Rd_word (by kernel_rfl) (fun y : UInt64 × Nat × Int => ⟨[(0, rdP), (4, sc (.int .u64 y.1.toNat)), (5, sc (.int .i64 y.2.1))], [((0, 0), rdR b y.2.2)], 2⟩) (fun y => 8 - y.2.1) (fun y => y.2.1 ≤ 8 ∧ p ≤ y.2.2 ∧ y.2.2 ≤ p + 1 + y.2.1) ?_ (0, 0, p0) ⟨by dsimp only; omega, by dsimp only; omega, by dsimp only; omega⟩
  rintro ⟨w, i, q⟩ ⟨j1, j2, j3⟩
  dsimp only at j1 j2 j3
  have hw : IntKind.i64.wrap ((i : Int) + 1) = ((i + 1 : Nat) : Int) := by rw [wrap64] <;> omega
  by_cases hlt : (i : Int) < 8
  · simp only [go_sem, ↓reduceIte, reduceCtorEq, Nat.reduceAdd, Nat.reduceMul, Nat.reduceEqDiff, Nat.reduceSub, Nat.reduceLT, Nat.reduceLeDiff, Nat.reduceAnd, Nat.reduceShiftRight, Nat.reduceBEq, Nat.reduceBNe, Nat.reduceBneDiff, Nat.reduceBeqDiff, Int.reduceToNat, Int.reduceLE, Int.reduceLT, Int.reduceEq, hlt, hw, wrapU]
    refine ⟨by omega, ?_⟩; rintro v q' g
    exact ⟨(_, i + 1, q'), ⟨by dsimp only; omega, by dsimp only; omega, by dsimp only; omega⟩, by dsimp only; omega, rfl⟩
  · simp only [go_sem, ↓reduceIte, reduceCtorEq, Nat.reduceAdd, Nat.reduceMul, Nat.reduceEqDiff, Nat.reduceSub, Nat.reduceLT, Nat.reduceLeDiff, Nat.reduceAnd, Nat.reduceShiftRight, Nat.reduceBEq, Nat.reduceBNe, Nat.reduceBneDiff, Nat.reduceBeqDiff, Int.reduceToNat, Int.reduceLE, Int.reduceLT, Int.reduceEq, hlt]
    exact ⟨(w, q), by dsimp only; omega, rfl, rfl⟩
abbrev RWord : FR := .rd0 eU64.enc 10 (fun _ => True)
attribute [go_sem] RWord
theorem ok_spec_l1Rd_word : RWord.ok Try.prog 60 := FR.rd0_ok fun b p h0 h1 => f_word b p h0 h1

def H_spec_l1Rd_digest : Hint := { fs := [], kp := [(0, [0]), (1, [0, 2]), (2, [0, 2, 3]), (3, [0, 2, 3, 4]), (4, [0, 2, 3, 4, 5])], an := [], rs := [(60, RWord)] }
attribute [go_sem] H_spec_l1Rd_digest
theorem ok_H_spec_l1Rd_digest : H_spec_l1Rd_digest.ok Try.prog := AllOk.okR .nil (.cons ok_spec_l1Rd_word .nil) mix
theorem f_digest (b : List UInt8) (p : Int) (h0 : 0 ≤ p) (h1 : p + 40 ≤ rdM) : ∃ t : Digest × Int, (p ≤ t.2 ∧ t.2 ≤ p + 40 ∧ True) ∧ VFun Try.prog 47 [rdP] [some (rdR b p)] ((CE.st cDigest).enc t.1) [some (rdR b t.2)] := by
  unfold rdM at h1
  refine VFun_rel (n := 18) (rs := [.cell 2 31]) Try.func47 rfl rfl rfl rfl H_spec_l1Rd_digest ok_H_spec_l1Rd_digest  (rin := [rdR b p]) (T := Digest × Int) (CE.st cDigest) (fun t => t.1) (fun t => [some (rdR b t.2)]) (fun t => p ≤ t.2 ∧ t.2 ≤ p + 40 ∧ True) (Nat.le_of_ble_eq_true rfl) (by kernel_rfl) ?_
  simp only [go_sem, ↓reduceIte, reduceCtorEq, Nat.reduceAdd, Nat.reduceMul, Nat.reduceEqDiff, Nat.reduceSub, Nat.reduceLT, Nat.reduceLeDiff, Nat.reduceAnd, Nat.reduceShiftRight, Nat.reduceBEq, Nat.reduceBNe, Nat.reduceBneDiff, Nat.reduceBeqDiff, Int.reduceToNat, Int.reduceLE, Int.reduceLT, Int.reduceEq]
  refine ⟨by omega, ?_⟩; rintro a0 p0 g0
  refine ⟨by omega, ?_⟩; rintro a1 p1 g1
  refine ⟨by omega, ?_⟩; rintro a2 p2 g2
  refine ⟨by omega, ?_⟩; rintro a3 p3 g3
  exact ⟨((a0, a1, a2, a3), p3), by dsimp only; omega, rfl, rfl⟩
abbrev RDigest : FR := .rd0 (CE.st cDigest).enc 40 (fun _ => True)
attribute [go_sem] RDigest
theorem ok_spec_l1Rd_digest : RDigest.ok Try.prog 47 := FR.rd0_ok fun b p h0 h1 => f_digest b p h0 h1

def s_ls (b : List UInt8) (y : Slot × Int × Int) : LS := ⟨[(0, rdP), (2, .x (.o (.p (1, 100) 0 0 1))), (3, .x (.o (.p (1, 101) 0 0 1))), (4, sc (.int .i64 y.2.1))], [((0, 0), rdR b y.2.2), ((1, 100), .bx [bx0]), ((1, 101), .bx [bxSlot y.1])], 2⟩
def s_l0 (b : List UInt8) (y : Slot × Int) : LS := ⟨[(0, rdP), (2, .x (.o (.p (1, 100) 0 0 1))), (3, .x (.o (.p (1, 101) 0 0 1)))], [((0, 0), rdR b y.2), ((1, 100), .bx [bx0]), ((1, 101), .bx [bxSlot y.1])], 2⟩
def s_l5 (b : List UInt8) (y : Slot × Int × Int) : LS := ⟨[(0, rdP), (2, .x (.o (.p (1, 100) 0 0 1))), (3, .x (.o (.p (1, 101) 0 0 1))), (5, sc (.int .i64 y.2.1))], [((0, 0), rdR b y.2.2), ((1, 100), .bx [bx0]), ((1, 101), .bx [bxSlot y.1])], 2⟩
def s_lt (b : List UInt8) (y : Slot × Int × Int) : LS := ⟨[(2, .x (.o (.p (1, 100) 0 0 1))), (3, .x (.o (.p (1, 101) 0 0 1))), (5, sc (.int .i64 y.2.1))], [((0, 0), rdR b y.2.2), ((1, 100), .bx [bx0]), ((1, 101), .bx [bxSlot y.1])], 2⟩
def s_lu (b : List UInt8) (y : Slot × Int) : LS := ⟨[(2, .x (.o (.p (1, 100) 0 0 1))), (3, .x (.o (.p (1, 101) 0 0 1)))], [((0, 0), rdR b y.2), ((1, 100), .bx [bx0]), ((1, 101), .bx [bxSlot y.1])], 2⟩
attribute [go_sem] s_ls s_l0 s_l5 s_lt s_lu
def H_spec_l7Slot : Hint := { fs := [(31, MSum)], kp := [(0, [0]), (1, [0, 2]), (2, [0, 2, 3]), (3, [0, 2, 3, 4]), (4, [0, 2, 3, 4]), (5, [0, 2, 3, 4]), (6, [0, 2, 3, 4]), (7, [0, 2, 3, 4]), (8, [0, 2, 3, 4]), (9, [0, 2, 3, 4]), (10, [0, 2, 3]), (11, [0, 2, 3]), (12, [0, 2, 3]), (13, [0, 2, 3, 5]), (14, [0, 2, 3, 5]), (15, [0, 2, 3, 5]), (16, [0, 2, 3, 5]), (17, [2, 3, 5]), (18, [2, 3, 5]), (19, [2, 3, 5]), (20, [2, 3]), (21, [2, 3])], an := [], rs := [(46, RPick), (47, RDigest), (60, RWord)], cut := [5, 7, 9, 11, 15, 17, 19, 21] }
attribute [go_sem] H_spec_l7Slot
theorem ok_H_spec_l7Slot : H_spec_l7Slot.ok Try.prog := AllOk.okR (.cons ok_spec_SlotSum .nil) (.cons ok_spec_l1Rd_pick (.cons ok_spec_l1Rd_digest (.cons ok_spec_l1Rd_word .nil))) mix
theorem f_l7Slot (b : List UInt8) (p : Int) (h0 : 0 ≤ p) (h1 : p + 100 ≤ rdM) : ∃ t : Slot × Int, (p ≤ t.2 ∧ t.2 ≤ p + 100 ∧ True) ∧ VFun Try.prog 58 [rdP] [some (rdR b p)] ((CE.st cSlot).enc t.1) [some (rdR b t.2)] := by
  unfold rdM at h1
  refine VFun_rel (n := 68) (rs := [.cell 2 33]) Try.func58 rfl rfl rfl rfl H_spec_l7Slot ok_H_spec_l7Slot  (rin := [rdR b p]) (T := Slot × Int) (CE.st cSlot) (fun t => t.1) (fun t => [some (rdR b t.2)]) (fun t => p ≤ t.2 ∧ t.2 ≤ p + 100 ∧ True) (Nat.le_of_ble_eq_true rfl) (by kernel_rfl) ?_
  simp only [go_sem, ↓reduceIte, reduceCtorEq, Nat.reduceAdd, Nat.reduceMul, Nat.reduceEqDiff, Nat.reduceSub, Nat.reduceLT, Nat.reduceLeDiff, Nat.reduceAnd, Nat.reduceShiftRight, Nat.reduceBEq, Nat.reduceBNe, Nat.reduceBneDiff, Nat.reduceBeqDiff, Int.reduceToNat, Int.reduceLE, Int.reduceLT, Int.reduceEq, wrapU]
  refine ⟨by omega, ?_⟩; rintro f0 p1 a1
  refine ⟨by omega, ?_⟩; rintro t0 p2 a2
  refine ⟨by omega, ?_⟩; rintro x0 p3 a3
  refine ⟨by omega, ?_⟩; rintro k0 p4 a4
  refine CutS.intro (H := H_spec_l7Slot) ok_H_spec_l7Slot (by kernel_rfl) (by kernel_rfl) (s_ls b) (fun y => p ≤ y.2.2 ∧ y.2.2 ≤ p + 50) ?_ ?_
  · simp only [go_sem, ↓reduceIte, reduceCtorEq, Nat.reduceAdd, Nat.reduceMul, Nat.reduceEqDiff, Nat.reduceSub, Nat.reduceLT, Nat.reduceLeDiff, Nat.reduceAnd, Nat.reduceShiftRight, Nat.reduceBEq, Nat.reduceBNe, Nat.reduceBneDiff, Nat.reduceBeqDiff, Int.reduceToNat, Int.reduceLE, Int.reduceLT, Int.reduceEq, wrapU]
    refine ite_intro (fun c => ?_) fun c => ?_
    · refine ⟨by omega, ?_⟩; rintro v q g
      exact ⟨((0, _, _, x0), k0, q), by dsimp only; omega, rfl⟩
    · exact ⟨((0, _, _, x0), k0, p4), by dsimp only; omega, rfl⟩
  clear a1 a2 a3 a4
  rintro ⟨⟨a, b1, c, d, e, f, g⟩, k, q⟩ j
  dsimp only at j
  simp only [go_sem, ↓reduceIte, reduceCtorEq, Nat.reduceAdd, Nat.reduceMul, Nat.reduceEqDiff, Nat.reduceSub, Nat.reduceLT, Nat.reduceLeDiff, Nat.reduceAnd, Nat.reduceShiftRight, Nat.reduceBEq, Nat.reduceBNe, Nat.reduceBneDiff, Nat.reduceBeqDiff, Int.reduceToNat, Int.reduceLE, Int.reduceLT, Int.reduceEq]
  refine CutS.intro (H := H_spec_l7Slot) ok_H_spec_l7Slot (by kernel_rfl) (by kernel_rfl) (s_ls b) (fun y => p ≤ y.2.2 ∧ y.2.2 ≤ p + 51) ?_ ?_
  · simp only [go_sem, ↓reduceIte, reduceCtorEq, Nat.reduceAdd, Nat.reduceMul, Nat.reduceEqDiff, Nat.reduceSub, Nat.reduceLT, Nat.reduceLeDiff, Nat.reduceAnd, Nat.reduceShiftRight, Nat.reduceBEq, Nat.reduceBNe, Nat.reduceBneDiff, Nat.reduceBeqDiff, Int.reduceToNat, Int.reduceLE, Int.reduceLT, Int.reduceEq, wrapU]
    refine ite_intro (fun c => ?_) fun c => ?_
    · refine ⟨by omega, ?_⟩; rintro v q g
      exact ⟨((_, _, _, _, _, _, _), k, q), by dsimp only; omega, rfl⟩
    · exact ⟨((_, _, _, _, _, _, _), k, q), by dsimp only; omega, rfl⟩
  clear j
  rintro ⟨⟨a, b1, c, d, e, f, g⟩, k, q⟩ j
  dsimp only at j
  simp only [go_sem, ↓reduceIte, reduceCtorEq, Nat.reduceAdd, Nat.reduceMul, Nat.reduceEqDiff, Nat.reduceSub, Nat.reduceLT, Nat.reduceLeDiff, Nat.reduceAnd, Nat.reduceShiftRight, Nat.reduceBEq, Nat.reduceBNe, Nat.reduceBneDiff, Nat.reduceBeqDiff, Int.reduceToNat, Int.reduceLE, Int.reduceLT, Int.reduceEq]
  refine CutS.intro (H := H_spec_l7Slot) ok_H_spec_l7Slot (by kernel_rfl) (by kernel_rfl) (s_ls b) (fun y => p ≤ y.2.2 ∧ y.2.2 ≤ p + 61) ?_ ?_
  · simp only [go_sem, ↓reduceIte, reduceCtorEq, Nat.reduceAdd, Nat.reduceMul, Nat.reduceEqDiff, Nat.reduceSub, Nat.reduceLT, Nat.reduceLeDiff, Nat.reduceAnd, Nat.reduceShiftRight, Nat.reduceBEq, Nat.reduceBNe, Nat.reduceBneDiff, Nat.reduceBeqDiff, Int.reduceToNat, Int.reduceLE, Int.reduceLT, Int.reduceEq, wrapU]
    refine ite_intro (fun c => ?_) fun c => ?_
    · refine ⟨by omega, ?_⟩; rintro v q g
      exact ⟨((_, _, _, _, _, _, _), k, q), by dsimp only; omega, rfl⟩
    · exact ⟨((_, _, _, _, _, _, _), k, q), by dsimp only; omega, rfl⟩
  clear j
  rintro ⟨⟨a, b1, c, d, e, f, g⟩, k, q⟩ j
  dsimp only at j
  simp only [go_sem, ↓reduceIte, reduceCtorEq, Nat.reduceAdd, Nat.reduceMul, Nat.reduceEqDiff, Nat.reduceSub, Nat.reduceLT, Nat.reduceLeDiff, Nat.reduceAnd, Nat.reduceShiftRight, Nat.reduceBEq, Nat.reduceBNe, Nat.reduceBneDiff, Nat.reduceBeqDiff, Int.reduceToNat, Int.reduceLE, Int.reduceLT, Int.reduceEq]
  refine CutS.intro (H := H_spec_l7Slot) ok_H_spec_l7Slot (by kernel_rfl) (by kernel_rfl) (s_l0 b) (fun y => p ≤ y.2 ∧ y.2 ≤ p + 71) ?_ ?_
  · simp only [go_sem, ↓reduceIte, reduceCtorEq, Nat.reduceAdd, Nat.reduceMul, Nat.reduceEqDiff, Nat.reduceSub, Nat.reduceLT, Nat.reduceLeDiff, Nat.reduceAnd, Nat.reduceShiftRight, Nat.reduceBEq, Nat.reduceBNe, Nat.reduceBneDiff, Nat.reduceBeqDiff, Int.reduceToNat, Int.reduceLE, Int.reduceLT, Int.reduceEq, wrapU]
    refine ite_intro (fun c => ?_) fun c => ?_
    · refine ⟨by omega, ?_⟩; rintro v q g
      exact ⟨((_, _, _, _, _, _, _), q), by dsimp only; omega, rfl⟩
    · exact ⟨((_, _, _, _, _, _, _), q), by dsimp only; omega, rfl⟩
  clear j
  rintro ⟨⟨a, b1, c, d, e, f, g⟩, q⟩ j
  dsimp only at j
  simp only [go_sem, ↓reduceIte, reduceCtorEq, Nat.reduceAdd, Nat.reduceMul, Nat.reduceEqDiff, Nat.reduceSub, Nat.reduceLT, Nat.reduceLeDiff, Nat.reduceAnd, Nat.reduceShiftRight, Nat.reduceBEq, Nat.reduceBNe, Nat.reduceBneDiff, Nat.reduceBeqDiff, Int.reduceToNat, Int.reduceLE, Int.reduceLT, Int.reduceEq]
  refine ⟨by omega, ?_⟩; rintro k0 q0 g0
  refine CutS.intro (H := H_spec_l7Slot) ok_H_spec_l7Slot (by kernel_rfl) (by kernel_rfl) (s_l5 b) (fun y => p ≤ y.2.2 ∧ y.2.2 ≤ p + 72) ?_ ?_
  · simp only [go_sem, ↓reduceIte, reduceCtorEq, Nat.reduceAdd, Nat.reduceMul, Nat.reduceEqDiff, Nat.reduceSub, Nat.reduceLT, Nat.reduceLeDiff, Nat.reduceAnd, Nat.reduceShiftRight, Nat.reduceBEq, Nat.reduceBNe, Nat.reduceBneDiff, Nat.reduceBeqDiff, Int.reduceToNat, Int.reduceLE, Int.reduceLT, Int.reduceEq, wrapU]
    refine ite_intro (fun c => ?_) fun c => ?_
    · exact ⟨((0, _, _, _, _, _, _), k0, q0), by dsimp only; omega, rfl⟩
    · exact ⟨((_, _, _, _, _, _, _), k0, q0), by dsimp only; omega, rfl⟩
  clear j g0
  rintro ⟨⟨a, b1, c, d, e, f, g⟩, k, q⟩ j
  dsimp only at j
  simp only [go_sem, ↓reduceIte, reduceCtorEq, Nat.reduceAdd, Nat.reduceMul, Nat.reduceEqDiff, Nat.reduceSub, Nat.reduceLT, Nat.reduceLeDiff, Nat.reduceAnd, Nat.reduceShiftRight, Nat.reduceBEq, Nat.reduceBNe, Nat.reduceBneDiff, Nat.reduceBeqDiff, Int.reduceToNat, Int.reduceLE, Int.reduceLT, Int.reduceEq]
  refine CutS.intro (H := H_spec_l7Slot) ok_H_spec_l7Slot (by kernel_rfl) (by kernel_rfl) (s_lt b) (fun y => p ≤ y.2.2 ∧ y.2.2 ≤ p + 82) ?_ ?_
  · simp only [go_sem, ↓reduceIte, reduceCtorEq, Nat.reduceAdd, Nat.reduceMul, Nat.reduceEqDiff, Nat.reduceSub, Nat.reduceLT, Nat.reduceLeDiff, Nat.reduceAnd, Nat.reduceShiftRight, Nat.reduceBEq, Nat.reduceBNe, Nat.reduceBneDiff, Nat.reduceBeqDiff, Int.reduceToNat, Int.reduceLE, Int.reduceLT, Int.reduceEq, wrapU]
    refine ite_intro (fun c => ?_) fun c => ?_
    · refine ⟨by omega, ?_⟩; rintro v q g
      exact ⟨((_, _, _, _, _, _, _), k, q), by dsimp only; omega, rfl⟩
    · exact ⟨((_, _, _, _, _, _, _), k, q), by dsimp only; omega, rfl⟩
  clear j
  rintro ⟨⟨a, b1, c, d, e, f, g⟩, k, q⟩ j
  dsimp only at j
  simp only [go_sem, ↓reduceIte, reduceCtorEq, Nat.reduceAdd, Nat.reduceMul, Nat.reduceEqDiff, Nat.reduceSub, Nat.reduceLT, Nat.reduceLeDiff, Nat.reduceAnd, Nat.reduceShiftRight, Nat.reduceBEq, Nat.reduceBNe, Nat.reduceBneDiff, Nat.reduceBeqDiff, Int.reduceToNat, Int.reduceLE, Int.reduceLT, Int.reduceEq]
  refine CutS.intro (H := H_spec_l7Slot) ok_H_spec_l7Slot (by kernel_rfl) (by kernel_rfl) (s_lt b) (fun y => p ≤ y.2.2 ∧ y.2.2 ≤ p + 82) ?_ ?_
  · simp only [go_sem, ↓reduceIte, reduceCtorEq, Nat.reduceAdd, Nat.reduceMul, Nat.reduceEqDiff, Nat.reduceSub, Nat.reduceLT, Nat.reduceLeDiff, Nat.reduceAnd, Nat.reduceShiftRight, Nat.reduceBEq, Nat.reduceBNe, Nat.reduceBneDiff, Nat.reduceBeqDiff, Int.reduceToNat, Int.reduceLE, Int.reduceLT, Int.reduceEq, wrapU]
    refine ite_intro (fun c => ?_) fun c => ?_
    · exact ⟨((0, 0, 0, 0, 0, 0, 0), k, q), by dsimp only; omega, rfl⟩
    · exact ⟨((_, _, _, _, _, _, _), k, q), by dsimp only; omega, rfl⟩
  clear j
  rintro ⟨⟨a, b1, c, d, e, f, g⟩, k, q⟩ j
  dsimp only at j
  simp only [go_sem, ↓reduceIte, reduceCtorEq, Nat.reduceAdd, Nat.reduceMul, Nat.reduceEqDiff, Nat.reduceSub, Nat.reduceLT, Nat.reduceLeDiff, Nat.reduceAnd, Nat.reduceShiftRight, Nat.reduceBEq, Nat.reduceBNe, Nat.reduceBneDiff, Nat.reduceBeqDiff, Int.reduceToNat, Int.reduceLE, Int.reduceLT, Int.reduceEq]
  refine CutS.intro (H := H_spec_l7Slot) ok_H_spec_l7Slot (by kernel_rfl) (by kernel_rfl) (s_lu b) (fun y => p ≤ y.2 ∧ y.2 ≤ p + 82) ?_ ?_
  · simp only [go_sem, ↓reduceIte, reduceCtorEq, Nat.reduceAdd, Nat.reduceMul, Nat.reduceEqDiff, Nat.reduceSub, Nat.reduceLT, Nat.reduceLeDiff, Nat.reduceAnd, Nat.reduceShiftRight, Nat.reduceBEq, Nat.reduceBNe, Nat.reduceBneDiff, Nat.reduceBeqDiff, Int.reduceToNat, Int.reduceLE, Int.reduceLT, Int.reduceEq, wrapU]
    refine ite_intro (fun c => ?_) fun c => ?_
    · exact ⟨((_, _, _, _, _, _, _), q), by dsimp only; omega, rfl⟩
    · exact ⟨((_, _, _, _, _, _, _), q), by dsimp only; omega, rfl⟩
  clear j
  rintro ⟨⟨a, b1, c, d, e, f, g⟩, q⟩ j
  dsimp only at j
  simp only [go_sem, ↓reduceIte, reduceCtorEq, Nat.reduceAdd, Nat.reduceMul, Nat.reduceEqDiff, Nat.reduceSub, Nat.reduceLT, Nat.reduceLeDiff, Nat.reduceAnd, Nat.reduceShiftRight, Nat.reduceBEq, Nat.reduceBNe, Nat.reduceBneDiff, Nat.reduceBeqDiff, Int.reduceToNat, Int.reduceLE, Int.reduceLT, Int.reduceEq]
  exact ⟨((a, b1, c, d, e, f, g), q), by dsimp only; omega, rfl, rfl⟩
abbrev RSlot : FR := .rd0 (CE.st cSlot).enc 100 (fun _ => True)
attribute [go_sem] RSlot
theorem ok_spec_l7Slot : RSlot.ok Try.prog 58 := FR.rd0_ok fun b p h0 h1 => f_l7Slot b p h0 h1

theorem rawsM_len (d : Disk) (n : Int) (r : Digest) : (rawsM d n r).length ≤ 8 := by
  unfold rawsM
  split <;> simp
def s_k0 (b : List UInt8) (y : Disk × Nat × Int) : LS := ⟨[(0, rdP), (2, .x (.o (.p (1, 100) 0 0 1))), (4, .x (.o (.p (1, 101) 0 0 1))), (5, sc (.int .i64 y.2.1))], [((0, 0), rdR b y.2.2), ((1, 100), bx00), ((1, 101), bxDisk y.1)], 2⟩
attribute [go_sem] s_k0
def H_spec_l7Disk : Hint := { fs := [(8, MRaws), (59, MCut)], kp := [(0, [0]), (1, [0, 2]), (2, [0, 2]), (3, [0, 2, 3]), (4, [0, 2]), (5, [0, 2, 4]), (6, [0, 2, 4, 5]), (8, [0, 2, 4, 5]), (9, [0, 2, 4, 5, 6]), (7, [0, 2, 4, 5]), (10, [0, 2, 4]), (11, [0, 2, 4]), (12, [2, 4])], an := [(3, [0, 0, 2, 7, 15]), (8, [0, 0, 2, 6, 0, 22, 63, 127]), (11, [0, 0, 0, 4, 12, 0, 44, 126, 0, 510, 1023, 2047])], rs := [(46, RPick), (47, RDigest), (58, RSlot)] }
attribute [go_sem] H_spec_l7Disk
theorem ok_H_spec_l7Disk : H_spec_l7Disk.ok Try.prog := AllOk.okR (.cons ok_spec_RecordRaws (.cons ok_spec_RecordCut .nil)) (.cons ok_spec_l1Rd_pick (.cons ok_spec_l1Rd_digest (.cons ok_spec_l7Slot .nil))) mix
theorem f_l7Disk (b : List UInt8) (p : Int) (h0 : 0 ≤ p) (h1 : p + 500 ≤ rdM) : ∃ t : Disk × Int, (p ≤ t.2 ∧ t.2 ≤ p + 500 ∧ True) ∧ VFun Try.prog 45 [rdP] [some (rdR b p)] ((CE.st cDisk).enc t.1) [some (rdR b t.2)] := by
  unfold rdM at h1
  refine VFun_rel (n := 48) (rs := [.cell 2 35]) Try.func45 rfl rfl rfl rfl H_spec_l7Disk ok_H_spec_l7Disk  (rin := [rdR b p]) (T := Disk × Int) (CE.st cDisk) (fun t => t.1) (fun t => [some (rdR b t.2)]) (fun t => p ≤ t.2 ∧ t.2 ≤ p + 500 ∧ True) (Nat.le_of_ble_eq_true rfl) (by kernel_rfl) ?_
  simp only [go_sem, ↓reduceIte, reduceCtorEq, Nat.reduceAdd, Nat.reduceMul, Nat.reduceEqDiff, Nat.reduceSub, Nat.reduceLT, Nat.reduceLeDiff, Nat.reduceAnd, Nat.reduceShiftRight, Nat.reduceBEq, Nat.reduceBNe, Nat.reduceBneDiff, Nat.reduceBeqDiff, Int.reduceToNat, Int.reduceLE, Int.reduceLT, Int.reduceEq]
  refine ⟨by omega, ?_⟩; rintro f0 p1 a1
  refine ite_intro (fun c => ?_) fun c => ?_
  · refine ⟨by omega, ?_⟩; rintro v q g
    refine ⟨by omega, ?_⟩; rintro v' q' g'
    exact ⟨((v, v'), q'), by dsimp only; omega, rfl, rfl⟩
  refine ⟨by omega, ?_⟩; rintro k p2 a2
  have h8 := rawsM_len
  obtain ⟨k, rfl⟩ := Int.eq_ofNat_of_zero_le a2.2.2.1
  refine LoopV.go (H := H_spec_l7Disk) ok_H_spec_l7Disk (by kernel_rfl) (s_k0 b) (fun y => y.2.1) (fun y => p ≤ y.2.2 ∧ y.2.2 + 50 * y.2.1 ≤ p + 300) ?_ (((0, 0, 0, 0, 0, 0, 0), (0, 0, 0, 0, 0, 0, 0)), k, p2) ⟨by dsimp only; omega, by dsimp only; omega⟩
  rintro ⟨⟨⟨a, b1, c1, d, e, f, g⟩, a', b1', c1', d', e', f', g'⟩, i, q⟩ ⟨j1, j2⟩
  dsimp only at j1 j2
  by_cases hlt : (0 : Int) < i
  · have hw : IntKind.i64.wrap ((i : Int) - 1) = ((i - 1 : Nat) : Int) := by rw [wrap64] <;> omega
    simp only [go_sem, ↓reduceIte, reduceCtorEq, Nat.reduceAdd, Nat.reduceMul, Nat.reduceEqDiff, Nat.reduceSub, Nat.reduceLT, Nat.reduceLeDiff, Nat.reduceAnd, Nat.reduceShiftRight, Nat.reduceBEq, Nat.reduceBNe, Nat.reduceBneDiff, Nat.reduceBeqDiff, Int.reduceToNat, Int.reduceLE, Int.reduceLT, Int.reduceEq, hlt, hw]
    refine ⟨by omega, ?_⟩; rintro v q1 g1
    refine ⟨by omega, ?_⟩; rintro v2 q2 g2
    refine ⟨?_, (writeM _ _, i - 1, q2), ⟨by dsimp only; omega, by dsimp only; omega⟩, by dsimp only; omega, rfl⟩
    exact Nat.le_trans (h8 _ _ _) (by omega)
  · simp only [go_sem, ↓reduceIte, reduceCtorEq, Nat.reduceAdd, Nat.reduceMul, Nat.reduceEqDiff, Nat.reduceSub, Nat.reduceLT, Nat.reduceLeDiff, Nat.reduceAnd, Nat.reduceShiftRight, Nat.reduceBEq, Nat.reduceBNe, Nat.reduceBneDiff, Nat.reduceBeqDiff, Int.reduceToNat, Int.reduceLE, Int.reduceLT, Int.reduceEq, hlt]
    refine ⟨by omega, ?_⟩; rintro v q1 g1
    refine ite_intro (fun c => ?_) fun c => ?_
    · refine ⟨by omega, ?_⟩; rintro v2 q2 g2
      refine ⟨by omega, ?_⟩; rintro v3 q3 g3
      refine ⟨by omega, ?_⟩; rintro v4 q4 g4
      exact ⟨Nat.le_trans (h8 _ _ _) (by omega), (_, q4), by dsimp only; omega, rfl, rfl⟩
    · exact ⟨((_, _), q1), by dsimp only; omega, rfl, rfl⟩
abbrev RDisk : FR := .rd0 (CE.st cDisk).enc 500 (fun _ => True)
attribute [go_sem] RDisk
theorem ok_spec_l7Disk : RDisk.ok Try.prog 45 := FR.rd0_ok fun b p h0 h1 => f_l7Disk b p h0 h1

def H_spec_DrawRecordMend : Hint := { fs := [(44, MOpen)], kp := [(0, [0]), (1, [0, 2]), (2, [2, 3])], an := [], rs := [(45, RDisk)] }
attribute [go_sem] H_spec_DrawRecordMend
theorem ok_H_spec_DrawRecordMend : H_spec_DrawRecordMend.ok Try.prog := AllOk.okR (.cons ok_spec_l1Open .nil) (.cons ok_spec_l7Disk .nil) mix
theorem f_DrawRecordMend (b : List UInt8) (h : b.length ≤ 1048576) : ∃ t : Disk, True ∧ VFun Try.prog 25 [(eList cU8).enc b] [] ((CE.st cDisk).enc t) [] := by
  refine VFun_rel (n := 8) (rs := [.cell 2 35]) Try.func25 rfl rfl rfl rfl H_spec_DrawRecordMend ok_H_spec_DrawRecordMend  (rin := []) (T := Disk) (CE.st cDisk) (fun t => t) (fun t => []) (fun t => True) (Nat.le_of_ble_eq_true rfl) (by kernel_rfl) ?_
  simp only [go_sem, ↓reduceIte, reduceCtorEq, Nat.reduceAdd, Nat.reduceMul, Nat.reduceEqDiff, Nat.reduceSub, Nat.reduceLT, Nat.reduceLeDiff, Nat.reduceAnd, Nat.reduceShiftRight, Nat.reduceBEq, Nat.reduceBNe, Nat.reduceBneDiff, Nat.reduceBeqDiff, Int.reduceToNat, Int.reduceLE, Int.reduceLT, Int.reduceEq]
  exact ⟨h, by omega, fun v q g => ⟨v, rfl⟩⟩
abbrev RDrawRecordMend : FR := .dr (CE.st cDisk) (fun _ => True)
attribute [go_sem] RDrawRecordMend
theorem ok_spec_DrawRecordMend : RDrawRecordMend.ok Try.prog 25 := FR.dr_ok fun b h => f_DrawRecordMend b h

abbrev eDraw3 : CE (Disk × Int × Digest) := eT3 (CE.st cDisk) (eInt .i64) (CE.st cDigest) (st_x _) (one_x _ _) (st_x _)
attribute [go_sem] eDraw3
abbrev zDigest : Root := .bx [[.c (.v (.int .u64 0)), .c (.v (.int .u64 0)), .c (.v (.int .u64 0)), .c (.v (.int .u64 0))]]
attribute [go_sem] zDigest
def s_d6 (b0 : List UInt8) (y : Disk × Int × Int) : LS := ⟨[(2, .x (.o (.p (1, 100) 0 0 1))), (4, .x (.o (.p (1, 101) 0 0 1))), (5, .x (.o (.p (1, 102) 0 0 1))), (6, .x (.o (.p (1, 103) 0 0 1))), (7, sc (.int .i64 y.2.1))], [((1, 100), bx00), ((1, 101), zDigest), ((1, 102), rdR (b0.take 2000) y.2.2), ((1, 103), bxDisk y.1)], 2⟩
attribute [go_sem] s_d6
def H_spec_DrawRecordRaws : Hint := { fs := [(44, MOpen)], kp := [(0, [0]), (1, [0, 2, 4]), (2, [2, 4, 5]), (3, [2, 4, 5, 6]), (4, [2, 4, 5, 6, 7]), (5, [2, 4, 5, 6]), (6, [2, 4, 5, 6, 7])], an := [(6, [0, 0, 0, 4, 13, 31, 63])], rs := [(45, RDisk), (46, RPickL), (47, RDigest)], cut := [6] }
attribute [go_sem] H_spec_DrawRecordRaws
theorem ok_H_spec_DrawRecordRaws : H_spec_DrawRecordRaws.ok Try.prog := AllOk.okR (.cons ok_spec_l1Open .nil) (.cons ok_spec_l7Disk (.cons okR_pickL (.cons ok_spec_l1Rd_digest .nil))) mix
theorem f_DrawRecordRaws (b : List UInt8) (h : b.length ≤ 1048576) : ∃ t : Disk × Int × Digest, True ∧ VFun Try.prog 20 [(eList cU8).enc b] [] (eDraw3.enc t) [] := by
  refine VFun_rel (n := 27) (rs := [.cell 2 35, .tmp 3, .cell 4 31]) Try.func20 rfl rfl rfl rfl H_spec_DrawRecordRaws ok_H_spec_DrawRecordRaws  (rin := []) (T := Disk × Int × Digest) eDraw3 (fun t => t) (fun t => []) (fun t => True) (Nat.le_of_ble_eq_true rfl) (by kernel_rfl) ?_
  simp only [go_sem, ↓reduceIte, reduceCtorEq, Nat.reduceAdd, Nat.reduceMul, Nat.reduceEqDiff, Nat.reduceSub, Nat.reduceLT, Nat.reduceLeDiff, Nat.reduceAnd, Nat.reduceShiftRight, Nat.reduceBEq, Nat.reduceBNe, Nat.reduceBneDiff, Nat.reduceBeqDiff, Int.reduceToNat, Int.reduceLE, Int.reduceLT, Int.reduceEq]
  refine ⟨h, by omega, fun v q g => ⟨by omega, fun n q2 g2 => ?_⟩⟩
  obtain ⟨⟨a, b1, c1, d, e, f, x⟩, a', b1', c1', d', e', f', x'⟩ := v
  refine CutS.intro (H := H_spec_DrawRecordRaws) ok_H_spec_DrawRecordRaws (by kernel_rfl) (by kernel_rfl) (s_d6 b) (fun y => 0 ≤ y.2.2 ∧ y.2.2 ≤ 600) ?_ ?_
  · simp only [go_sem, ↓reduceIte, reduceCtorEq, Nat.reduceAdd, Nat.reduceMul, Nat.reduceEqDiff, Nat.reduceSub, Nat.reduceLT, Nat.reduceLeDiff, Nat.reduceAnd, Nat.reduceShiftRight, Nat.reduceBEq, Nat.reduceBNe, Nat.reduceBneDiff, Nat.reduceBeqDiff, Int.reduceToNat, Int.reduceLE, Int.reduceLT, Int.reduceEq]
    refine ⟨by omega, fun v q3 g3 => ?_⟩
    refine ite_intro (fun c => ?_) fun c => ?_
    · refine ⟨by omega, ?_⟩
      (repeat' apply And.intro) <;> exact fun q4 g4 => ⟨(((_, _, _, _, _, _, _), (_, _, _, _, _, _, _)), _, q4), by dsimp only; omega, rfl⟩
    · exact ⟨(((_, _, _, _, _, _, _), (_, _, _, _, _, _, _)), _, q3), by dsimp only; omega, rfl⟩
  rintro ⟨⟨⟨a, b1, c1, d, e, f, x⟩, a', b1', c1', d', e', f', x'⟩, n, q⟩ j
  dsimp only at j
  simp only [go_sem, ↓reduceIte, reduceCtorEq, Nat.reduceAdd, Nat.reduceMul, Nat.reduceEqDiff, Nat.reduceSub, Nat.reduceLT, Nat.reduceLeDiff, Nat.reduceAnd, Nat.reduceShiftRight, Nat.reduceBEq, Nat.reduceBNe, Nat.reduceBneDiff, Nat.reduceBeqDiff, Int.reduceToNat, Int.reduceLE, Int.reduceLT, Int.reduceEq]
  exact ⟨by omega, fun v q3 g3 => ⟨(((_, _, _, _, _, _, _), (_, _, _, _, _, _, _)), n, _), rfl⟩⟩
abbrev RDrawRecordRaws : FR := .dr eDraw3 (fun _ => True)
attribute [go_sem] RDrawRecordRaws
theorem ok_spec_DrawRecordRaws : RDrawRecordRaws.ok Try.prog 20 := FR.dr_ok fun b h => f_DrawRecordRaws b h

end Go.Proofs.YtgdbammhnjkbbaaW.V

