/- Functions: monitors that are drawn, spoilt; clients that are the same; a fetch is read again. No condition but each theorem's own. -/
import Derived.Test.YtlofjogebacndaaFWF
import Derived.Test.YtlofjogebacndaaFQR
namespace Go.Proofs.YtlofjogebacndaaW.V
open Go Go.Proofs
set_option linter.unusedSimpArgs false
set_option linter.unusedVariables false
set_option maxRecDepth 8000
set_option maxHeartbeats 4000000

set_option synthInstance.maxSize 1000

abbrev O3 : FM := .g1 (eList cU8) (fun b => (rdP, [some (bxP 1), some (bxP 2), some (rdR (b.take 2000) 0)])) (fun b => b.length ≤ 1048576)
attribute [go_sem] O3
def H_spec_l11Open : Hint := { fs := [(93, Ml2Open)], kp := [(0, [0]), (1, [0])], an := [], own := true }
attribute [go_sem] H_spec_l11Open
theorem ok_H_spec_l11Open : H_spec_l11Open.ok Try.prog := AllOk.okR (.cons ok_spec_l2Open .nil) .nil mix
theorem f_l11Open (b : List UInt8) (h : b.length ≤ 1048576) : VFun Try.prog 57 [(eList cU8).enc b] [] rdP [some (bxP 1), some (bxP 2), some (rdR (b.take 2000) 0)] := by
  refine VFun_own (rin := []) (n := 7) (rs := [.tmp 2]) Try.func57 rfl rfl rfl rfl H_spec_l11Open ok_H_spec_l11Open (Nat.le_of_ble_eq_true rfl) (by kernel_rfl) ?_
  simp only [go_sem, ↓reduceIte, reduceCtorEq, Nat.reduceAdd, Nat.reduceMul, Nat.reduceEqDiff, Nat.reduceSub, Nat.reduceLT, Nat.reduceLeDiff, Nat.reduceAnd, Nat.reduceShiftRight, Nat.reduceBEq, Nat.reduceBNe, Nat.reduceBneDiff, Nat.reduceBeqDiff, Int.reduceToNat, Int.reduceLE, Int.reduceLT, Int.reduceEq]
  exact h
theorem ok_spec_l11Open : O3.ok Try.prog 57 := FM.g1_ok fun b h => f_l11Open b h

def H_spec_l10Point : Hint := { fs := [], kp := [(0, [0, 1]), (1, [0, 1, 4]), (2, [0, 1, 4, 5])], an := [(2, [0, 0, 2, 7, 0, 31, 63])], rs := [(61, RPick)] }
attribute [go_sem] H_spec_l10Point
theorem ok_H_spec_l10Point : H_spec_l10Point.ok Try.prog := AllOk.okR .nil (.cons ok_spec_l1Rd_pick .nil) mix
theorem f_l10Point (b : List UInt8) (p n : Int) (h0 : 0 ≤ p) (h1 : p + 2 ≤ rdM) : ∃ t : Point × Int, (p ≤ t.2 ∧ t.2 ≤ p + 2 ∧ True) ∧ VFun Try.prog 118 [rdP, (eInt .i64).enc n] [some (rdR b p)] ((CE.st cPoint).enc t.1) [some (rdR b t.2)] := by
  unfold rdM at h1
  refine VFun_rel (n := 16) (rs := [.cell 4 37]) Try.func118 rfl rfl rfl rfl H_spec_l10Point ok_H_spec_l10Point  (rin := [rdR b p]) (T := Point × Int) (CE.st cPoint) (fun t => t.1) (fun t => [some (rdR b t.2)]) (fun t => p ≤ t.2 ∧ t.2 ≤ p + 2 ∧ True) (Nat.le_of_ble_eq_true rfl) (by kernel_rfl) ?_
  simp only [go_sem, ↓reduceIte, reduceCtorEq, Nat.reduceAdd, Nat.reduceMul, Nat.reduceEqDiff, Nat.reduceSub, Nat.reduceLT, Nat.reduceLeDiff, Nat.reduceAnd, Nat.reduceShiftRight, Nat.reduceBEq, Nat.reduceBNe, Nat.reduceBneDiff, Nat.reduceBeqDiff, Int.reduceToNat, Int.reduceLE, Int.reduceLT, Int.reduceEq, wrapU]
  refine ⟨by omega, ?_⟩; rintro a0 p0 g0
  refine ⟨by omega, ?_⟩; rintro a1 p1 g1
  exact ⟨((_, _, 0, 0, 0), p1), by dsimp only; omega, rfl, rfl⟩
abbrev RPoint : FR := .rd1 (eInt .i64) (CE.st cPoint).enc (fun _ => 2) (fun _ => True) (fun _ _ => True)
attribute [go_sem] RPoint
theorem ok_spec_l10Point : RPoint.ok Try.prog 118 := FR.rd1_ok fun b p n h0 h1 _ => f_l10Point b p n h0 h1

def treePt (l : List ByteArray) : Point := if leavesOk l then ((l.length : Int), rootM l) else zPoint
theorem treePt_0 (l : List ByteArray) : 0 ≤ (treePt l).1 := by
  unfold treePt
  split
  · exact Int.natCast_nonneg _
  · decide

def H_spec_TreePoint : Hint := { fs := [(27, MLeavesOk), (29, MRoot)], kp := [(0, [0]), (1, [0, 2]), (2, [2]), (3, [0, 2])], an := [] }
attribute [go_sem] H_spec_TreePoint
theorem ok_H_spec_TreePoint : H_spec_TreePoint.ok Try.prog := AllOk.okR (.cons ok_spec_LeavesOk (.cons ok_l2Root .nil)) .nil mix
theorem f_TreePoint (l : List ByteArray) (h : l.length ≤ 256 ∧ ∀ x ∈ l, x.size ≤ 40) : VFun Try.prog 95 [(eList cStr).enc l] [] ((CE.st cPoint).enc (treePt l)) [] := by
  refine VFun_pure (n := 12) (rs := [.cell 2 37]) Try.func95 rfl rfl rfl rfl H_spec_TreePoint ok_H_spec_TreePoint _ _ (Nat.le_of_ble_eq_true rfl) (by kernel_rfl) ?_
  simp only [go_sem, ↓reduceIte, reduceCtorEq, Nat.reduceAdd, Nat.reduceMul, Nat.reduceEqDiff, Nat.reduceSub, Nat.reduceLT, Nat.reduceLeDiff, Nat.reduceAnd, Nat.reduceShiftRight, Nat.reduceBEq, Nat.reduceBNe, Nat.reduceBneDiff, Nat.reduceBeqDiff, Int.reduceToNat, Int.reduceLE, Int.reduceLT, Int.reduceEq]
  refine ⟨by omega, ite_intro (fun h1 => ?_) fun h1 => ⟨h, ?_⟩⟩
  · rw [treePt, if_neg (by rw [h1]; decide)]
  · rw [treePt, if_pos (by simpa using h1)]
abbrev MTreePoint : FM := .f1 (eList cStr) (CE.st cPoint).enc treePt (fun l => l.length ≤ 256 ∧ ∀ x ∈ l, x.size ≤ 40)
attribute [go_sem] MTreePoint
theorem ok_spec_TreePoint : MTreePoint.ok Try.prog 95 := FM.f1_ok fun l h => f_TreePoint l h

abbrev RClient : FR where
  md := []
  m args rin := match args, rin with
    | [.x (.o (.p (0, 0) 0 0 1))], [.bx [[.c (.s rows), .c (.v (.int .i64 p))]]] => match mapO cU8.dec rows with
      | some b => some (rows = b.map cU8.enc ∧ 0 ≤ p ∧ p + 40 ≤ rdM, fun k => ∀ (c : Client) q, p ≤ q ∧ q ≤ p + 40 ∧ c.2.2.2.2.2.1.length ≤ 1000 → k (oClient 1 c) [some (rdR b q), some (oR (cInt .i64) c.2.2.2.2.2.1)])
      | none => none
    | _, _ => none
attribute [go_sem] RClient
theorem RClient_ok {P : Program} {g : FuncId} (h : ∀ (b : List UInt8) (p : Int), 0 ≤ p → p + 40 ≤ rdM → ∃ t : Client × Int, (p ≤ t.2 ∧ t.2 ≤ p + 40 ∧ t.1.2.2.2.2.2.1.length ≤ 1000) ∧ VFun P g [rdP] [some (rdR b p)] (oClient 1 t.1) [some (rdR b t.2), some (oR (cInt .i64) t.1.2.2.2.2.2.1)]) : RClient.ok P g := by
  intro args rin pre W hm hp k hk
  simp only [RClient] at hm
  split at hm
  · split at hm
    · cases hm
      obtain ⟨e, h1, h2⟩ := hp
      subst e
      obtain ⟨t, h3, h4⟩ := h _ _ h1 h2
      exact ⟨_, _, h4, hk _ _ h3⟩
    · cases hm
  · cases hm

abbrev bxN (c : Client) : List D := [.c (.v (.int .i64 c.1)), .c (.v (.int .i64 c.2.1)), .c (.v (.int .i64 c.2.2.1)), .c (.v (.int .i64 c.2.2.2.1)),
  .c (.v (.int .i64 c.2.2.2.2.1.1)), .c (.v (.int .u64 c.2.2.2.2.1.2.1.toNat)), .c (.v (.int .u64 c.2.2.2.2.1.2.2.1.toNat)), .c (.v (.int .u64 c.2.2.2.2.1.2.2.2.1.toNat)), .c (.v (.int .u64 c.2.2.2.2.1.2.2.2.2.toNat)),
  .c (.v (.slice none 0 0)),
  .c (.v (.int .i64 c.2.2.2.2.2.2.1)), .c (.v (.int .u64 c.2.2.2.2.2.2.2.1.toNat)), .c (.v (.int .u64 c.2.2.2.2.2.2.2.2.1.toNat)), .c (.v (.int .u64 c.2.2.2.2.2.2.2.2.2.1.toNat)), .c (.v (.int .u64 c.2.2.2.2.2.2.2.2.2.2.toNat))]
abbrev bxO (c : Client) (ρ : Nm) (n : Nat) : List D := [.c (.v (.int .i64 c.1)), .c (.v (.int .i64 c.2.1)), .c (.v (.int .i64 c.2.2.1)), .c (.v (.int .i64 c.2.2.2.1)),
  .c (.v (.int .i64 c.2.2.2.2.1.1)), .c (.v (.int .u64 c.2.2.2.2.1.2.1.toNat)), .c (.v (.int .u64 c.2.2.2.2.1.2.2.1.toNat)), .c (.v (.int .u64 c.2.2.2.2.1.2.2.2.1.toNat)), .c (.v (.int .u64 c.2.2.2.2.1.2.2.2.2.toNat)),
  .h ρ 0 n n,
  .c (.v (.int .i64 c.2.2.2.2.2.2.1)), .c (.v (.int .u64 c.2.2.2.2.2.2.2.1.toNat)), .c (.v (.int .u64 c.2.2.2.2.2.2.2.2.1.toNat)), .c (.v (.int .u64 c.2.2.2.2.2.2.2.2.2.1.toNat)), .c (.v (.int .u64 c.2.2.2.2.2.2.2.2.2.2.toNat))]
attribute [go_sem] bxN bxO

def H_spec_l10Client : Hint := { fs := [], kp := [(0, [0]), (1, [0, 2]), (2, [0, 2, 3]), (3, [0, 2, 3, 4]), (4, [0, 2, 3, 5]), (5, [0, 2, 3, 5]), (6, [0, 2, 3, 5]), (7, [0, 2, 3, 5]), (8, [0, 2, 3, 5]), (9, [0, 2, 3, 5, 6]), (10, [2, 5]), (11, [0, 2, 3, 5, 6]), (12, [0, 2, 3, 5, 6]), (13, [2, 5]), (14, [0, 2, 3, 5]), (15, [0, 2, 3, 5]), (16, [0, 2, 3, 5]), (17, [0, 2, 3, 5, 7]), (18, [0, 2, 3, 5]), (19, [0, 2, 3, 5, 7]), (20, [2, 5, 7, 8]), (21, [2, 5, 7, 8, 9]), (23, [2, 5, 7, 8, 9]), (22, [2, 5, 7, 8, 9]), (24, [2, 5])], an := [], rs := [(61, RPick), (118, RPoint)], own := true, ow := [(0, 9, 1)], nb := [(20, [(5, 9, 1)])], cut := [6, 8, 11, 15, 17, 19] }
attribute [go_sem] H_spec_l10Client
theorem ok_H_spec_l10Client : H_spec_l10Client.ok Try.prog := AllOk.okR .nil (.cons ok_spec_l1Rd_pick (.cons ok_spec_l10Point .nil)) mix
theorem f_l10Client (b : List UInt8) (p : Int) (h0 : 0 ≤ p) (h1 : p + 40 ≤ rdM) : ∃ t : Client × Int, (p ≤ t.2 ∧ t.2 ≤ p + 40 ∧ t.1.2.2.2.2.2.1.length ≤ 1000) ∧ VFun Try.prog 94 [rdP] [some (rdR b p)] (oClient 1 t.1) [some (rdR b t.2), some (oR (cInt .i64) t.1.2.2.2.2.2.1)] := by
  unfold rdM at h1
  refine VFun_relE (n := 93) (rs := [.cell 2 39]) Try.func94 rfl rfl rfl rfl H_spec_l10Client ok_H_spec_l10Client  (rin := [rdR b p]) (T := Client × Int) (fun t => oClient 1 t.1) (fun t => [some (rdR b t.2), some (oR (cInt .i64) t.1.2.2.2.2.2.1)]) (fun t => p ≤ t.2 ∧ t.2 ≤ p + 40 ∧ t.1.2.2.2.2.2.1.length ≤ 1000) (Nat.le_of_ble_eq_true rfl) (by kernel_rfl) ?_
  simp only [go_sem, ↓reduceIte, reduceCtorEq, Nat.reduceAdd, Nat.reduceMul, Nat.reduceEqDiff, Nat.reduceSub, Nat.reduceLT, Nat.reduceLeDiff, Nat.reduceAnd, Nat.reduceShiftRight, Nat.reduceBEq, Nat.reduceBNe, Nat.reduceBneDiff, Nat.reduceBeqDiff, Int.reduceToNat, Int.reduceLE, Int.reduceLT, Int.reduceEq]
  refine ⟨by omega, ?_⟩; rintro a0 p0 g0
  have wm : IntKind.i64.wrap (1 + a0) = 1 + a0 := by rw [wrap64] <;> omega
  have wd : (1 + a0).tdiv 2 = (1 + a0) / 2 := Int.tdiv_eq_ediv_of_nonneg (by omega)
  have wn : IntKind.i64.wrap ((1 + a0) / 2 + 1) = (1 + a0) / 2 + 1 := by rw [wrap64] <;> omega
  have wo : IntKind.i64.wrap (IntKind.i64.wrap (1 + a0 - ((1 + a0) / 2 + 1)) + 1) = (1 + a0) - (1 + a0) / 2 := by
    rw [show IntKind.i64.wrap (1 + a0 - ((1 + a0) / 2 + 1)) = 1 + a0 - ((1 + a0) / 2 + 1) by rw [wrap64] <;> omega, wrap64] <;> omega
  have wdd : IntKind.i64.wrap ((1 + a0) / 2) = (1 + a0) / 2 := by rw [wrap64] <;> omega
  simp only [wm, wd, wdd, wn, wo]
  refine ⟨by omega, ?_⟩; rintro a1 p1 g1
  have wq : IntKind.i64.wrap ((1 + a0) / 2 + 1 + a1) = (1 + a0) / 2 + 1 + a1 := by rw [wrap64] <;> omega
  simp only [wq]
  refine ⟨by omega, ?_⟩; rintro a2 p2 g2
  refine CutS.intro (H := H_spec_l10Client) ok_H_spec_l10Client (by kernel_rfl) (by kernel_rfl) (fun y : Point × Int => ⟨[(0, rdP), (2, .x (.o (.p (1, 100) 0 0 1))), (3, sc (.int .i64 (1 + a0))), (5, .x (.o (.p (1, 101) 0 0 1)))], [((0, 0), rdR b y.2), ((1, 100), .bx [zBxC]), ((1, 101), .bx [bxN ((1 + a0) / 2 + 1 + a1, 1 + a0, a2, 0, zPoint, [], y.1)])], 2⟩) (fun y => p ≤ y.2 ∧ y.2 ≤ p + 6) ?_ ?_
  · simp only [go_sem, ↓reduceIte, reduceCtorEq, Nat.reduceAdd, Nat.reduceMul, Nat.reduceEqDiff, Nat.reduceSub, Nat.reduceLT, Nat.reduceLeDiff, Nat.reduceAnd, Nat.reduceShiftRight, Nat.reduceBEq, Nat.reduceBNe, Nat.reduceBneDiff, Nat.reduceBeqDiff, Int.reduceToNat, Int.reduceLE, Int.reduceLT, Int.reduceEq]
    refine ⟨by omega, ?_⟩; rintro a3 p3 g3
    refine ite_intro (fun _ => ⟨by omega, fun v q g => ⟨(v, q), by dsimp only; omega, rfl⟩⟩) fun _ => ⟨(zPoint, p3), by dsimp only; omega, rfl⟩
  rintro ⟨pin, p4⟩ g4
  dsimp only at g4
  refine CutS.intro (H := H_spec_l10Client) ok_H_spec_l10Client (by kernel_rfl) (by kernel_rfl) (fun y : Int × Int => ⟨[(0, rdP), (2, .x (.o (.p (1, 100) 0 0 1))), (3, sc (.int .i64 (1 + a0))), (5, .x (.o (.p (1, 101) 0 0 1)))], [((0, 0), rdR b y.2), ((1, 100), .bx [zBxC]), ((1, 101), .bx [bxN ((1 + a0) / 2 + 1 + a1, 1 + a0, y.1, 0, zPoint, [], pin)])], 2⟩) (fun y => p ≤ y.2 ∧ y.2 ≤ p + 8) ?_ ?_
  · simp only [go_sem, ↓reduceIte, reduceCtorEq, Nat.reduceAdd, Nat.reduceMul, Nat.reduceEqDiff, Nat.reduceSub, Nat.reduceLT, Nat.reduceLeDiff, Nat.reduceAnd, Nat.reduceShiftRight, Nat.reduceBEq, Nat.reduceBNe, Nat.reduceBneDiff, Nat.reduceBeqDiff, Int.reduceToNat, Int.reduceLE, Int.reduceLT, Int.reduceEq]
    refine ⟨by omega, ?_⟩; rintro a5 p5 g5
    refine ite_intro (fun _ => ⟨by omega, fun v q g => ⟨(_, q), by dsimp only; omega, rfl⟩⟩) fun _ => ⟨(a2, p5), by dsimp only; omega, rfl⟩
  rintro ⟨ses, p6⟩ g6
  dsimp only at g6
  simp only [go_sem, ↓reduceIte, reduceCtorEq, Nat.reduceAdd, Nat.reduceMul, Nat.reduceEqDiff, Nat.reduceSub, Nat.reduceLT, Nat.reduceLeDiff, Nat.reduceAnd, Nat.reduceShiftRight, Nat.reduceBEq, Nat.reduceBNe, Nat.reduceBneDiff, Nat.reduceBeqDiff, Int.reduceToNat, Int.reduceLE, Int.reduceLT, Int.reduceEq]
  refine ⟨by omega, ?_⟩; rintro a7 p7 g7
  refine CutS.intro (H := H_spec_l10Client) ok_H_spec_l10Client (by kernel_rfl) (by kernel_rfl) (fun y : Int × Int => ⟨[(0, rdP), (2, .x (.o (.p (1, 100) 0 0 1))), (3, sc (.int .i64 (1 + a0))), (5, .x (.o (.p (1, 101) 0 0 1))), (6, sc (.int .i64 y.1))], [((0, 0), rdR b y.2), ((1, 100), .bx [zBxC]), ((1, 101), .bx [bxN ((1 + a0) / 2 + 1 + a1, 1 + a0, ses, 0, zPoint, [], pin)])], 2⟩) (fun y => p ≤ y.2 ∧ y.2 ≤ p + 10) ?_ ?_
  · simp only [go_sem, ↓reduceIte, reduceCtorEq, Nat.reduceAdd, Nat.reduceMul, Nat.reduceEqDiff, Nat.reduceSub, Nat.reduceLT, Nat.reduceLeDiff, Nat.reduceAnd, Nat.reduceShiftRight, Nat.reduceBEq, Nat.reduceBNe, Nat.reduceBneDiff, Nat.reduceBeqDiff, Int.reduceToNat, Int.reduceLE, Int.reduceLT, Int.reduceEq]
    refine ite_intro (fun _ => ite_intro (fun _ => ⟨((_, _, _, _, (_, 0, 0, 0, 0), [], _), p7), ⟨by dsimp only; omega, by dsimp only; omega, by simp⟩, rfl, rfl⟩) fun _ => ⟨(a7, p7), by dsimp only; omega, rfl⟩) fun _ => ⟨((_, _, _, _, (_, 0, 0, 0, 0), [], _), p7), ⟨by dsimp only; omega, by dsimp only; omega, by simp⟩, rfl, rfl⟩
  rintro ⟨k, p8⟩ g8
  dsimp only at g8
  simp only [go_sem, ↓reduceIte, reduceCtorEq, Nat.reduceAdd, Nat.reduceMul, Nat.reduceEqDiff, Nat.reduceSub, Nat.reduceLT, Nat.reduceLeDiff, Nat.reduceAnd, Nat.reduceShiftRight, Nat.reduceBEq, Nat.reduceBNe, Nat.reduceBneDiff, Nat.reduceBeqDiff, Int.reduceToNat, Int.reduceLE, Int.reduceLT, Int.reduceEq]
  refine ite_intro (fun _ => ⟨((_, _, _, _, (_, 0, 0, 0, 0), [], _), p8), ⟨by dsimp only; omega, by dsimp only; omega, by simp⟩, rfl, rfl⟩) fun _ => ?_
  refine CutS.intro (H := H_spec_l10Client) ok_H_spec_l10Client (by kernel_rfl) (by kernel_rfl) (fun y : Unit × Int => ⟨[(0, rdP), (2, .x (.o (.p (1, 100) 0 0 1))), (3, sc (.int .i64 (1 + a0))), (5, .x (.o (.p (1, 101) 0 0 1)))], [((0, 0), rdR b y.2), ((1, 100), .bx [zBxC]), ((1, 101), .bx [bxN ((1 + a0) / 2 + 1 + a1, 1 + a0, ses, 2, zPoint, [], pin)])], 2⟩) (fun y => p ≤ y.2 ∧ y.2 ≤ p + 10) ?_ ?_
  · simp only [go_sem, ↓reduceIte, reduceCtorEq, Nat.reduceAdd, Nat.reduceMul, Nat.reduceEqDiff, Nat.reduceSub, Nat.reduceLT, Nat.reduceLeDiff, Nat.reduceAnd, Nat.reduceShiftRight, Nat.reduceBEq, Nat.reduceBNe, Nat.reduceBneDiff, Nat.reduceBeqDiff, Int.reduceToNat, Int.reduceLE, Int.reduceLT, Int.reduceEq]
    exact ⟨((), p8), by dsimp only; omega, rfl⟩
  rintro ⟨_, p9⟩ g9
  dsimp only at g9
  simp only [go_sem, ↓reduceIte, reduceCtorEq, Nat.reduceAdd, Nat.reduceMul, Nat.reduceEqDiff, Nat.reduceSub, Nat.reduceLT, Nat.reduceLeDiff, Nat.reduceAnd, Nat.reduceShiftRight, Nat.reduceBEq, Nat.reduceBNe, Nat.reduceBneDiff, Nat.reduceBeqDiff, Int.reduceToNat, Int.reduceLE, Int.reduceLT, Int.reduceEq]
  refine ⟨by omega, ?_⟩; rintro goal p10 g10
  refine CutS.intro (H := H_spec_l10Client) ok_H_spec_l10Client (by kernel_rfl) (by kernel_rfl) (fun y : Int × Int => ⟨[(0, rdP), (2, .x (.o (.p (1, 100) 0 0 1))), (3, sc (.int .i64 (1 + a0))), (5, .x (.o (.p (1, 101) 0 0 1))), (7, sc (.int .i64 y.1))], [((0, 0), rdR b y.2), ((1, 100), .bx [zBxC]), ((1, 101), .bx [bxN ((1 + a0) / 2 + 1 + a1, 1 + a0, ses, 2, goal, [], pin)])], 2⟩) (fun y => p ≤ y.2 ∧ y.2 ≤ p + 15 ∧ 0 ≤ y.1 ∧ y.1 ≤ 20) ?_ ?_
  · simp only [go_sem, ↓reduceIte, reduceCtorEq, Nat.reduceAdd, Nat.reduceMul, Nat.reduceEqDiff, Nat.reduceSub, Nat.reduceLT, Nat.reduceLeDiff, Nat.reduceAnd, Nat.reduceShiftRight, Nat.reduceBEq, Nat.reduceBNe, Nat.reduceBneDiff, Nat.reduceBeqDiff, Int.reduceToNat, Int.reduceLE, Int.reduceLT, Int.reduceEq]
    refine ⟨by omega, ?_⟩; rintro n0 p11 g11
    exact ⟨(n0, p11), by dsimp only; omega, rfl⟩
  rintro ⟨n1, p12⟩ g12
  dsimp only at g12
  refine CutS.intro (H := H_spec_l10Client) ok_H_spec_l10Client (by kernel_rfl) (by kernel_rfl) (fun y : Int × Int => ⟨[(0, rdP), (2, .x (.o (.p (1, 100) 0 0 1))), (3, sc (.int .i64 (1 + a0))), (5, .x (.o (.p (1, 101) 0 0 1))), (7, sc (.int .i64 y.1))], [((0, 0), rdR b y.2), ((1, 100), .bx [zBxC]), ((1, 101), .bx [bxN ((1 + a0) / 2 + 1 + a1, 1 + a0, ses, 2, goal, [], pin)])], 2⟩) (fun y => p ≤ y.2 ∧ y.2 ≤ p + 20 ∧ 0 ≤ y.1 ∧ y.1 ≤ 20) ?_ ?_
  · simp only [go_sem, ↓reduceIte, reduceCtorEq, Nat.reduceAdd, Nat.reduceMul, Nat.reduceEqDiff, Nat.reduceSub, Nat.reduceLT, Nat.reduceLeDiff, Nat.reduceAnd, Nat.reduceShiftRight, Nat.reduceBEq, Nat.reduceBNe, Nat.reduceBneDiff, Nat.reduceBeqDiff, Int.reduceToNat, Int.reduceLE, Int.reduceLT, Int.reduceEq]
    refine ⟨by omega, ?_⟩; rintro a13 p13 g13
    have wx : IntKind.i64.wrap ((1 + a0) / 2 + 1 + a1 - 1) = (1 + a0) / 2 + a1 := by rw [wrap64] <;> omega
    simp only [wx]
    refine ite_intro (fun _ => ⟨(_, p13), by dsimp only; omega, rfl⟩) fun _ => ⟨(n1, p13), by dsimp only; omega, rfl⟩
  rintro ⟨n, p14⟩ g14
  dsimp only at g14
  simp only [go_sem, ↓reduceIte, reduceCtorEq, Nat.reduceAdd, Nat.reduceMul, Nat.reduceEqDiff, Nat.reduceSub, Nat.reduceLT, Nat.reduceLeDiff, Nat.reduceAnd, Nat.reduceShiftRight, Nat.reduceBEq, Nat.reduceBNe, Nat.reduceBneDiff, Nat.reduceBeqDiff, Int.reduceToNat, Int.reduceLE, Int.reduceLT, Int.reduceEq]
  refine ⟨by omega, ?_⟩; rintro skip p15 g15
  obtain ⟨n, rfl⟩ := Int.eq_ofNat_of_zero_le g14.2.2.1
  refine LoopV.go (H := H_spec_l10Client) ok_H_spec_l10Client (by kernel_rfl) (fun xs : List Int => ⟨[(2, .x (.o (.p (1, 100) 0 0 1))), (5, .x (.o (.p (1, 101) 0 0 1))), (7, sc (.int .i64 n)), (8, sc (.int .i64 skip)), (9, sc (.int .i64 ((xs.length + 1 : Nat) : Int)))], [((0, 0), rdR b p15), ((1, 100), .bx [zBxC]), ((1, 101), .bx [bxO ((1 + a0) / 2 + 1 + a1, 1 + a0, ses, 2, goal, [], pin) (1, 102) xs.length]), ((1, 102), .row 1 (xs.map (cInt .i64).enc))], 2⟩) (fun xs => n - xs.length) (fun xs => xs.length ≤ n) ?_ [] (Nat.zero_le _)
  intro xs hxs
  have w1 : IntKind.i64.wrap (((xs.length + 1 : Nat) : Int) + 1) = ((xs.length + 1 + 1 : Nat) : Int) := by rw [wrap64] <;> omega
  by_cases hlt : ((xs.length + 1 : Nat) : Int) ≤ (n : Int)
  · simp only [go_sem, ↓reduceIte, reduceCtorEq, Nat.reduceAdd, Nat.reduceMul, Nat.reduceEqDiff, Nat.reduceSub, Nat.reduceLT, Nat.reduceLeDiff, Nat.reduceAnd, Nat.reduceShiftRight, Nat.reduceBEq, Nat.reduceBNe, Nat.reduceBneDiff, Nat.reduceBeqDiff, Int.reduceToNat, Int.reduceLE, Int.reduceLT, Int.reduceEq, hlt, w1]
    exact ⟨⟨by omega, by omega⟩, xs ++ [IntKind.i64.wrap (((xs.length + 1 : Nat) : Int) + skip)], by simp; omega, by simp; omega, by rw [List.length_append, List.map_append]; rfl⟩
  · simp only [go_sem, ↓reduceIte, reduceCtorEq, Nat.reduceAdd, Nat.reduceMul, Nat.reduceEqDiff, Nat.reduceSub, Nat.reduceLT, Nat.reduceLeDiff, Nat.reduceAnd, Nat.reduceShiftRight, Nat.reduceBEq, Nat.reduceBNe, Nat.reduceBneDiff, Nat.reduceBeqDiff, Int.reduceToNat, Int.reduceLE, Int.reduceLT, Int.reduceEq, hlt]
    exact ⟨((_, _, _, _, _, xs, _), p15), ⟨by dsimp only; omega, by dsimp only; omega, by dsimp only; omega⟩, rfl, rfl⟩
theorem ok_spec_l10Client : RClient.ok Try.prog 94 := RClient_ok fun b p h0 h1 => f_l10Client b p h0 h1

abbrev RSpoilt : FR where
  md := [1]
  m args rin := match args, rin with
    | [.x (.o (.p (0, 0) 0 0 1)), e2], [.bx [[.c (.s rows), .c (.v (.int .i64 p))]], .row 1 rowt] => match mapO cU8.dec rows, mapO (cInt .i64).dec rowt with
      | some b, some xs => some (rows = b.map cU8.enc ∧ rowt = xs.map (cInt .i64).enc ∧ 0 ≤ p ∧ p + 60 ≤ rdM ∧ ∃ c : Client, e2 = oClient 1 c ∧ xs = c.2.2.2.2.2.1 ∧ c.2.2.2.2.2.1.length ≤ 10000, fun k => ∀ (c : Client) q, p ≤ q ∧ q ≤ p + 60 ∧ c.2.2.2.2.2.1.length ≤ xs.length + 1 → k (oClient 1 c) [some (rdR b q), some (oR (cInt .i64) c.2.2.2.2.2.1)])
      | _, _ => none
    | _, _ => none
attribute [go_sem] RSpoilt
theorem RSpoilt_ok {P : Program} {g : FuncId} (h : ∀ (b : List UInt8) (p : Int) (c : Client), 0 ≤ p → p + 60 ≤ rdM → c.2.2.2.2.2.1.length ≤ 10000 → ∃ t : Client × Int, (p ≤ t.2 ∧ t.2 ≤ p + 60 ∧ t.1.2.2.2.2.2.1.length ≤ c.2.2.2.2.2.1.length + 1) ∧ VFun P g [rdP, oClient 1 c] [some (rdR b p), some (oR (cInt .i64) c.2.2.2.2.2.1)] (oClient 1 t.1) [some (rdR b t.2), some (oR (cInt .i64) t.1.2.2.2.2.2.1)]) : RSpoilt.ok P g := by
  intro args rin pre W hm hp k hk
  simp only [RSpoilt] at hm
  split at hm
  · split at hm
    · cases hm
      obtain ⟨e, e2, h1, h2, c, e3, e4, h3⟩ := hp
      subst e e2 e3 e4
      obtain ⟨t, h3, h4⟩ := h _ _ c h1 h2 h3
      exact ⟨_, _, h4, hk _ _ h3⟩
    · cases hm
  · cases hm

def H_spec_l10Spoilt : Hint := { fs := [], kp := [(0, [0, 1]), (1, [0, 3, 4]), (2, [0, 3, 4, 5]), (3, [0, 3, 4, 5]), (4, [0, 3, 4, 5]), (5, [0, 3, 4, 5]), (6, [0, 3, 4, 5]), (7, [0, 3, 4, 5]), (8, [0, 3, 4, 5]), (9, [0, 3, 4, 5]), (10, [0, 3, 4, 5]), (11, [0, 3, 4, 5]), (12, [0, 3, 4, 5]), (13, [0, 3, 4, 5]), (14, [0, 3, 4, 5]), (15, [0, 3, 4]), (16, [3, 4])], an := [(13, [0, 1, 0, 4, 12, 31, 63, 127]), (15, [0, 0, 2, 7, 15, 0, 38, 127, 255, 511])], rs := [(61, RPickL), (96, RDigest)], own := true, cut := [2, 4, 6, 8, 10, 12, 14, 16] }
attribute [go_sem] H_spec_l10Spoilt
theorem ok_H_spec_l10Spoilt : H_spec_l10Spoilt.ok Try.prog := AllOk.okR .nil (.cons okR_pickL (.cons ok_spec_l1Rd_digest .nil)) mix
theorem f_l10Spoilt (b : List UInt8) (p : Int) (c : Client) (h0 : 0 ≤ p) (h1 : p + 60 ≤ rdM) (hc : c.2.2.2.2.2.1.length ≤ 10000) : ∃ t : Client × Int, (p ≤ t.2 ∧ t.2 ≤ p + 60 ∧ t.1.2.2.2.2.2.1.length ≤ c.2.2.2.2.2.1.length + 1) ∧ VFun Try.prog 99 [rdP, oClient 1 c] [some (rdR b p), some (oR (cInt .i64) c.2.2.2.2.2.1)] (oClient 1 t.1) [some (rdR b t.2), some (oR (cInt .i64) t.1.2.2.2.2.2.1)] := by
  unfold rdM at h1
  obtain ⟨xs, hxs⟩ : ∃ xs, xs = c.2.2.2.2.2.1 := ⟨_, rfl⟩
  refine VFun_relE (n := 59) (rs := [.cell 4 39]) Try.func99 rfl rfl rfl rfl H_spec_l10Spoilt ok_H_spec_l10Spoilt  (rin := [rdR b p, oR (cInt .i64) c.2.2.2.2.2.1]) (T := Client × Int) (fun t => oClient 1 t.1) (fun t => [some (rdR b t.2), some (oR (cInt .i64) t.1.2.2.2.2.2.1)]) (fun t => p ≤ t.2 ∧ t.2 ≤ p + 60 ∧ t.1.2.2.2.2.2.1.length ≤ c.2.2.2.2.2.1.length + 1) (Nat.le_of_ble_eq_true rfl) (by kernel_rfl) ?_
  simp only [go_sem, ↓reduceIte, reduceCtorEq, Nat.reduceAdd, Nat.reduceMul, Nat.reduceEqDiff, Nat.reduceSub, Nat.reduceLT, Nat.reduceLeDiff, Nat.reduceAnd, Nat.reduceShiftRight, Nat.reduceBEq, Nat.reduceBNe, Nat.reduceBneDiff, Nat.reduceBeqDiff, Int.reduceToNat, Int.reduceLE, Int.reduceLT, Int.reduceEq]
  refine CutS.intro (H := H_spec_l10Spoilt) ok_H_spec_l10Spoilt (by kernel_rfl) (by kernel_rfl) (fun y : Int × Int => ⟨[(0, rdP), (3, .x (.o (.p (1, 100) 0 0 1))), (4, .x (.o (.p (1, 101) 0 0 1))), (5, sc (.int .i64 y.1))], [((0, 0), rdR b y.2), ((0, 1), .row 1 (c.2.2.2.2.2.1.map (cInt .i64).enc)), ((1, 100), .bx [bxO c (0, 1) c.2.2.2.2.2.1.length]), ((1, 101), .bx [zBxC])], 2⟩) (fun y => p ≤ y.2 ∧ y.2 ≤ p + 1) ?_ ?_
  · simp only [go_sem, ↓reduceIte, reduceCtorEq, Nat.reduceAdd, Nat.reduceMul, Nat.reduceEqDiff, Nat.reduceSub, Nat.reduceLT, Nat.reduceLeDiff, Nat.reduceAnd, Nat.reduceShiftRight, Nat.reduceBEq, Nat.reduceBNe, Nat.reduceBneDiff, Nat.reduceBeqDiff, Int.reduceToNat, Int.reduceLE, Int.reduceLT, Int.reduceEq]
    refine ⟨by omega, ?_⟩; rintro k p0 g0
    exact ⟨(k, p0), by dsimp only; omega, rfl⟩
  rintro ⟨k, p0⟩ g0
  dsimp only at g0
  refine CutS.intro (H := H_spec_l10Spoilt) ok_H_spec_l10Spoilt (by kernel_rfl) (by kernel_rfl) (fun y : Client × Int => ⟨[(0, rdP), (3, .x (.o (.p (1, 100) 0 0 1))), (4, .x (.o (.p (1, 101) 0 0 1))), (5, sc (.int .i64 k))], [((0, 0), rdR b y.2), ((0, 1), .row 1 (y.1.2.2.2.2.2.1.map (cInt .i64).enc)), ((1, 100), .bx [bxO y.1 (0, 1) y.1.2.2.2.2.2.1.length]), ((1, 101), .bx [zBxC])], 2⟩) (fun y => p ≤ y.2 ∧ y.2 ≤ p + 2 ∧ y.1.2.2.2.2.2.1.length ≤ c.2.2.2.2.2.1.length + 0) ?_ ?_
  · simp only [go_sem, ↓reduceIte, reduceCtorEq, Nat.reduceAdd, Nat.reduceMul, Nat.reduceEqDiff, Nat.reduceSub, Nat.reduceLT, Nat.reduceLeDiff, Nat.reduceAnd, Nat.reduceShiftRight, Nat.reduceBEq, Nat.reduceBNe, Nat.reduceBneDiff, Nat.reduceBeqDiff, Int.reduceToNat, Int.reduceLE, Int.reduceLT, Int.reduceEq]
    exact ite_intro (fun _ => ⟨by omega, fun v q g => ⟨((v, c.2), q), ⟨by dsimp only; omega, by dsimp only; omega, by dsimp only; omega⟩, rfl⟩⟩) fun _ => ⟨(c, p0), ⟨by dsimp only; omega, by dsimp only; omega, by dsimp only; omega⟩, rfl⟩
  rintro ⟨⟨need, many, ses, ph, goal, xs, pin⟩, q0⟩ g0
  dsimp only at g0
  refine CutS.intro (H := H_spec_l10Spoilt) ok_H_spec_l10Spoilt (by kernel_rfl) (by kernel_rfl) (fun y : Client × Int => ⟨[(0, rdP), (3, .x (.o (.p (1, 100) 0 0 1))), (4, .x (.o (.p (1, 101) 0 0 1))), (5, sc (.int .i64 k))], [((0, 0), rdR b y.2), ((0, 1), .row 1 (y.1.2.2.2.2.2.1.map (cInt .i64).enc)), ((1, 100), .bx [bxO y.1 (0, 1) y.1.2.2.2.2.2.1.length]), ((1, 101), .bx [zBxC])], 2⟩) (fun y => p ≤ y.2 ∧ y.2 ≤ p + 3 ∧ y.1.2.2.2.2.2.1.length ≤ c.2.2.2.2.2.1.length + 0) ?_ ?_
  · simp only [go_sem, ↓reduceIte, reduceCtorEq, Nat.reduceAdd, Nat.reduceMul, Nat.reduceEqDiff, Nat.reduceSub, Nat.reduceLT, Nat.reduceLeDiff, Nat.reduceAnd, Nat.reduceShiftRight, Nat.reduceBEq, Nat.reduceBNe, Nat.reduceBneDiff, Nat.reduceBeqDiff, Int.reduceToNat, Int.reduceLE, Int.reduceLT, Int.reduceEq]
    exact ite_intro (fun _ => ⟨by omega, fun v q g => ⟨((need, v, ses, ph, goal, xs, pin), q), ⟨by dsimp only; omega, by dsimp only; omega, by dsimp only; omega⟩, rfl⟩⟩) fun _ => ⟨((need, many, ses, ph, goal, xs, pin), q0), ⟨by dsimp only; omega, by dsimp only; omega, by dsimp only; omega⟩, rfl⟩
  rintro ⟨⟨need, many, ses, ph, goal, xs, pin⟩, q0⟩ g0
  dsimp only at g0
  refine CutS.intro (H := H_spec_l10Spoilt) ok_H_spec_l10Spoilt (by kernel_rfl) (by kernel_rfl) (fun y : Client × Int => ⟨[(0, rdP), (3, .x (.o (.p (1, 100) 0 0 1))), (4, .x (.o (.p (1, 101) 0 0 1))), (5, sc (.int .i64 k))], [((0, 0), rdR b y.2), ((0, 1), .row 1 (y.1.2.2.2.2.2.1.map (cInt .i64).enc)), ((1, 100), .bx [bxO y.1 (0, 1) y.1.2.2.2.2.2.1.length]), ((1, 101), .bx [zBxC])], 2⟩) (fun y => p ≤ y.2 ∧ y.2 ≤ p + 4 ∧ y.1.2.2.2.2.2.1.length ≤ c.2.2.2.2.2.1.length + 0) ?_ ?_
  · simp only [go_sem, ↓reduceIte, reduceCtorEq, Nat.reduceAdd, Nat.reduceMul, Nat.reduceEqDiff, Nat.reduceSub, Nat.reduceLT, Nat.reduceLeDiff, Nat.reduceAnd, Nat.reduceShiftRight, Nat.reduceBEq, Nat.reduceBNe, Nat.reduceBneDiff, Nat.reduceBeqDiff, Int.reduceToNat, Int.reduceLE, Int.reduceLT, Int.reduceEq]
    refine ite_intro (fun _ => ⟨by omega, fun q g => ?_, fun q g => ?_, fun q g => ?_⟩) fun _ => ⟨((need, many, ses, ph, goal, xs, pin), q0), ⟨by dsimp only; omega, by dsimp only; omega, by dsimp only; omega⟩, rfl⟩
    · exact ⟨((need, many, -1, ph, goal, xs, pin), q), ⟨by dsimp only; omega, by dsimp only; omega, by dsimp only; omega⟩, rfl⟩
    · exact ⟨((need, many, 0, ph, goal, xs, pin), q), ⟨by dsimp only; omega, by dsimp only; omega, by dsimp only; omega⟩, rfl⟩
    · exact ⟨((need, many, 1000001, ph, goal, xs, pin), q), ⟨by dsimp only; omega, by dsimp only; omega, by dsimp only; omega⟩, rfl⟩
  rintro ⟨⟨need, many, ses, ph, goal, xs, pin⟩, q0⟩ g0
  dsimp only at g0
  refine CutS.intro (H := H_spec_l10Spoilt) ok_H_spec_l10Spoilt (by kernel_rfl) (by kernel_rfl) (fun y : Client × Int => ⟨[(0, rdP), (3, .x (.o (.p (1, 100) 0 0 1))), (4, .x (.o (.p (1, 101) 0 0 1))), (5, sc (.int .i64 k))], [((0, 0), rdR b y.2), ((0, 1), .row 1 (y.1.2.2.2.2.2.1.map (cInt .i64).enc)), ((1, 100), .bx [bxO y.1 (0, 1) y.1.2.2.2.2.2.1.length]), ((1, 101), .bx [zBxC])], 2⟩) (fun y => p ≤ y.2 ∧ y.2 ≤ p + 5 ∧ y.1.2.2.2.2.2.1.length ≤ c.2.2.2.2.2.1.length + 0) ?_ ?_
  · simp only [go_sem, ↓reduceIte, reduceCtorEq, Nat.reduceAdd, Nat.reduceMul, Nat.reduceEqDiff, Nat.reduceSub, Nat.reduceLT, Nat.reduceLeDiff, Nat.reduceAnd, Nat.reduceShiftRight, Nat.reduceBEq, Nat.reduceBNe, Nat.reduceBneDiff, Nat.reduceBeqDiff, Int.reduceToNat, Int.reduceLE, Int.reduceLT, Int.reduceEq]
    exact ite_intro (fun _ => ⟨by omega, fun v q g => ⟨((need, many, ses, IntKind.i64.wrap (v - 1), goal, xs, pin), q), ⟨by dsimp only; omega, by dsimp only; omega, by dsimp only; omega⟩, rfl⟩⟩) fun _ => ⟨((need, many, ses, ph, goal, xs, pin), q0), ⟨by dsimp only; omega, by dsimp only; omega, by dsimp only; omega⟩, rfl⟩
  rintro ⟨⟨need, many, ses, ph, goal, xs, pin⟩, q0⟩ g0
  dsimp only at g0
  refine CutS.intro (H := H_spec_l10Spoilt) ok_H_spec_l10Spoilt (by kernel_rfl) (by kernel_rfl) (fun y : Client × Int => ⟨[(0, rdP), (3, .x (.o (.p (1, 100) 0 0 1))), (4, .x (.o (.p (1, 101) 0 0 1))), (5, sc (.int .i64 k))], [((0, 0), rdR b y.2), ((0, 1), .row 1 (y.1.2.2.2.2.2.1.map (cInt .i64).enc)), ((1, 100), .bx [bxO y.1 (0, 1) y.1.2.2.2.2.2.1.length]), ((1, 101), .bx [zBxC])], 2⟩) (fun y => p ≤ y.2 ∧ y.2 ≤ p + 6 ∧ y.1.2.2.2.2.2.1.length ≤ c.2.2.2.2.2.1.length + 0) ?_ ?_
  · simp only [go_sem, ↓reduceIte, reduceCtorEq, Nat.reduceAdd, Nat.reduceMul, Nat.reduceEqDiff, Nat.reduceSub, Nat.reduceLT, Nat.reduceLeDiff, Nat.reduceAnd, Nat.reduceShiftRight, Nat.reduceBEq, Nat.reduceBNe, Nat.reduceBneDiff, Nat.reduceBeqDiff, Int.reduceToNat, Int.reduceLE, Int.reduceLT, Int.reduceEq]
    exact ite_intro (fun _ => ⟨by omega, fun v q g => ⟨((need, many, ses, ph, (v, 0, 0, 0, 0), xs, pin), q), ⟨by dsimp only; omega, by dsimp only; omega, by dsimp only; omega⟩, rfl⟩⟩) fun _ => ⟨((need, many, ses, ph, goal, xs, pin), q0), ⟨by dsimp only; omega, by dsimp only; omega, by dsimp only; omega⟩, rfl⟩
  rintro ⟨⟨need, many, ses, ph, goal, xs, pin⟩, q0⟩ g0
  dsimp only at g0
  refine CutS.intro (H := H_spec_l10Spoilt) ok_H_spec_l10Spoilt (by kernel_rfl) (by kernel_rfl) (fun y : Client × Int => ⟨[(0, rdP), (3, .x (.o (.p (1, 100) 0 0 1))), (4, .x (.o (.p (1, 101) 0 0 1))), (5, sc (.int .i64 k))], [((0, 0), rdR b y.2), ((0, 1), .row 1 (y.1.2.2.2.2.2.1.map (cInt .i64).enc)), ((1, 100), .bx [bxO y.1 (0, 1) y.1.2.2.2.2.2.1.length]), ((1, 101), .bx [zBxC])], 2⟩) (fun y => p ≤ y.2 ∧ y.2 ≤ p + 7 ∧ y.1.2.2.2.2.2.1.length ≤ c.2.2.2.2.2.1.length + 1) ?_ ?_
  · simp only [go_sem, ↓reduceIte, reduceCtorEq, Nat.reduceAdd, Nat.reduceMul, Nat.reduceEqDiff, Nat.reduceSub, Nat.reduceLT, Nat.reduceLeDiff, Nat.reduceAnd, Nat.reduceShiftRight, Nat.reduceBEq, Nat.reduceBNe, Nat.reduceBneDiff, Nat.reduceBeqDiff, Int.reduceToNat, Int.reduceLE, Int.reduceLT, Int.reduceEq]
    exact ite_intro (fun _ => ⟨by omega, fun v q g => ⟨⟨by omega, by omega⟩, ((need, many, ses, ph, goal, xs ++ [v], pin), q), ⟨by dsimp only; omega, by dsimp only; omega, by simp; omega⟩, by rw [List.length_append, List.map_append]; rfl⟩⟩) fun _ => ⟨((need, many, ses, ph, goal, xs, pin), q0), ⟨by dsimp only; omega, by dsimp only; omega, by dsimp only; omega⟩, rfl⟩
  rintro ⟨⟨need, many, ses, ph, goal, xs, pin⟩, q0⟩ g0
  dsimp only at g0
  refine CutS.intro (H := H_spec_l10Spoilt) ok_H_spec_l10Spoilt (by kernel_rfl) (by kernel_rfl) (fun y : Client × Int => ⟨[(3, .x (.o (.p (1, 100) 0 0 1))), (4, .x (.o (.p (1, 101) 0 0 1)))], [((0, 0), rdR b y.2), ((0, 1), .row 1 (y.1.2.2.2.2.2.1.map (cInt .i64).enc)), ((1, 100), .bx [bxO y.1 (0, 1) y.1.2.2.2.2.2.1.length]), ((1, 101), .bx [zBxC])], 2⟩) (fun y => p ≤ y.2 ∧ y.2 ≤ p + 58 ∧ y.1.2.2.2.2.2.1.length ≤ c.2.2.2.2.2.1.length + 1) ?_ ?_
  · simp only [go_sem, ↓reduceIte, reduceCtorEq, Nat.reduceAdd, Nat.reduceMul, Nat.reduceEqDiff, Nat.reduceSub, Nat.reduceLT, Nat.reduceLeDiff, Nat.reduceAnd, Nat.reduceShiftRight, Nat.reduceBEq, Nat.reduceBNe, Nat.reduceBneDiff, Nat.reduceBeqDiff, Int.reduceToNat, Int.reduceLE, Int.reduceLT, Int.reduceEq]
    refine ite_intro (fun _ => ⟨by omega, fun q g => ?_, fun q g => ?_, fun q g => ?_, fun q g => ?_⟩) fun _ => ⟨((need, many, ses, ph, goal, xs, pin), q0), ⟨by dsimp only; omega, by dsimp only; omega, by dsimp only; omega⟩, rfl⟩
    · exact ⟨by omega, fun v q g => ⟨((need, many, ses, ph, goal, xs, (0, v)), q), ⟨by dsimp only; omega, by dsimp only; omega, by dsimp only; omega⟩, rfl⟩⟩
    · exact ⟨by omega, fun v q g => ⟨((need, many, ses, ph, goal, xs, (-1, v)), q), ⟨by dsimp only; omega, by dsimp only; omega, by dsimp only; omega⟩, rfl⟩⟩
    · exact ⟨by omega, fun v q g => ⟨((need, many, ses, ph, goal, xs, (256, v)), q), ⟨by dsimp only; omega, by dsimp only; omega, by dsimp only; omega⟩, rfl⟩⟩
    · exact ⟨by omega, fun v q g => ⟨((need, many, ses, ph, goal, xs, (257, v)), q), ⟨by dsimp only; omega, by dsimp only; omega, by dsimp only; omega⟩, rfl⟩⟩
  rintro ⟨⟨need, many, ses, ph, goal, xs, pin⟩, q0⟩ g0
  dsimp only at g0
  simp only [go_sem, ↓reduceIte, reduceCtorEq, Nat.reduceAdd, Nat.reduceMul, Nat.reduceEqDiff, Nat.reduceSub, Nat.reduceLT, Nat.reduceLeDiff, Nat.reduceAnd, Nat.reduceShiftRight, Nat.reduceBEq, Nat.reduceBNe, Nat.reduceBneDiff, Nat.reduceBeqDiff, Int.reduceToNat, Int.reduceLE, Int.reduceLT, Int.reduceEq]
  exact ⟨((need, many, ses, ph, goal, xs, pin), q0), ⟨by dsimp only; omega, by dsimp only; omega, by dsimp only; omega⟩, rfl, rfl⟩
theorem ok_spec_l10Spoilt : RSpoilt.ok Try.prog 99 := RSpoilt_ok f_l10Spoilt

abbrev oMonJ (j k : Nat) (m : Monitor) : E := .x (.a [.c (.v (.int .i64 m.1.1)), .c (.v (.int .i64 m.1.2.1)), .c (.v (.int .i64 m.1.2.2.1)), .c (.v (.int .i64 m.1.2.2.2.1)),
  .c (.v (.int .i64 m.1.2.2.2.2.1.1)), .c (.v (.int .u64 m.1.2.2.2.2.1.2.1.toNat)), .c (.v (.int .u64 m.1.2.2.2.2.1.2.2.1.toNat)), .c (.v (.int .u64 m.1.2.2.2.2.1.2.2.2.1.toNat)), .c (.v (.int .u64 m.1.2.2.2.2.1.2.2.2.2.toNat)),
  .h (0, j) 0 m.1.2.2.2.2.2.1.length m.1.2.2.2.2.2.1.length,
  .c (.v (.int .i64 m.1.2.2.2.2.2.2.1)), .c (.v (.int .u64 m.1.2.2.2.2.2.2.2.1.toNat)), .c (.v (.int .u64 m.1.2.2.2.2.2.2.2.2.1.toNat)), .c (.v (.int .u64 m.1.2.2.2.2.2.2.2.2.2.1.toNat)), .c (.v (.int .u64 m.1.2.2.2.2.2.2.2.2.2.2.toNat)),
  .h (0, k) 0 m.2.1.length m.2.1.length,
  .c (.v (.int .i64 m.2.2.1)), .c (.v (.int .u64 m.2.2.2.1.toNat)), .c (.v (.int .u64 m.2.2.2.2.1.toNat)), .c (.v (.int .u64 m.2.2.2.2.2.1.toNat)), .c (.v (.int .u64 m.2.2.2.2.2.2.toNat))])
/-- The cells of a client, its acks a list of one's own; those of a point. -/
abbrev ccC (c : Client) (ρ : Nm) : List D := [.c (.v (.int .i64 c.1)), .c (.v (.int .i64 c.2.1)), .c (.v (.int .i64 c.2.2.1)), .c (.v (.int .i64 c.2.2.2.1)),
  .c (.v (.int .i64 c.2.2.2.2.1.1)), .c (.v (.int .u64 c.2.2.2.2.1.2.1.toNat)), .c (.v (.int .u64 c.2.2.2.2.1.2.2.1.toNat)), .c (.v (.int .u64 c.2.2.2.2.1.2.2.2.1.toNat)), .c (.v (.int .u64 c.2.2.2.2.1.2.2.2.2.toNat)),
  .h ρ 0 c.2.2.2.2.2.1.length c.2.2.2.2.2.1.length,
  .c (.v (.int .i64 c.2.2.2.2.2.2.1)), .c (.v (.int .u64 c.2.2.2.2.2.2.2.1.toNat)), .c (.v (.int .u64 c.2.2.2.2.2.2.2.2.1.toNat)), .c (.v (.int .u64 c.2.2.2.2.2.2.2.2.2.1.toNat)), .c (.v (.int .u64 c.2.2.2.2.2.2.2.2.2.2.toNat))]
abbrev ccP (p : Point) : List D := [.c (.v (.int .i64 p.1)), .c (.v (.int .u64 p.2.1.toNat)), .c (.v (.int .u64 p.2.2.1.toNat)), .c (.v (.int .u64 p.2.2.2.1.toNat)), .c (.v (.int .u64 p.2.2.2.2.toNat))]
abbrev bxM (c : Client) (ρ : Nm) (lv : D) (p : Point) : List D := ccC c ρ ++ lv :: ccP p
abbrev zBxM : List D := zBxC ++ [.c (.v (.slice none 0 0)), .c (.v (.int .i64 0)), .c (.v (.int .u64 0)), .c (.v (.int .u64 0)), .c (.v (.int .u64 0)), .c (.v (.int .u64 0))]
attribute [go_sem] oMonJ ccC ccP bxM zBxM

abbrev RMonitor : FR where
  md := []
  m args rin := match args, rin with
    | [.x (.o (.p (0, 0) 0 0 1)), e2], [.bx [[.p (0, 1) 0 0 1]], .bx [[.p (0, 2) 0 0 1]], .bx [[.c (.s rows), .c (.v (.int .i64 p))]]] => match mapO cU8.dec rows, (eList cStr).dec e2 with
      | some b, some l => some (rows = b.map cU8.enc ∧ 0 ≤ p ∧ p + 100 ≤ rdM ∧ l.length ≤ 100 ∧ (∀ x ∈ l, x.size ≤ 40), fun k => ∀ (m : Monitor) q, p ≤ q ∧ q ≤ p + 100 ∧ m.1.2.2.2.2.2.1.length ≤ 1000 ∧ m.2.1.length ≤ 100 → k (oMonJ 3 4 m) [some (bxP 1), some (bxP 2), some (rdR b q), some (oR (cInt .i64) m.1.2.2.2.2.2.1), some (oR cStr m.2.1)])
      | _, _ => none
    | _, _ => none
attribute [go_sem] RMonitor
theorem RMonitor_ok {P : Program} {g : FuncId} (h : ∀ (b : List UInt8) (p : Int) (l : List ByteArray), 0 ≤ p → p + 100 ≤ rdM → l.length ≤ 100 → (∀ x ∈ l, x.size ≤ 40) → ∃ t : Monitor × Int, (p ≤ t.2 ∧ t.2 ≤ p + 100 ∧ t.1.1.2.2.2.2.2.1.length ≤ 1000 ∧ t.1.2.1.length ≤ 100) ∧ VFun P g [rdP, (eList cStr).enc l] [some (bxP 1), some (bxP 2), some (rdR b p)] (oMonJ 3 4 t.1) [some (bxP 1), some (bxP 2), some (rdR b t.2), some (oR (cInt .i64) t.1.1.2.2.2.2.2.1), some (oR cStr t.1.2.1)]) : RMonitor.ok P g := by
  intro args rin pr W hm hp k hk
  simp only [RMonitor] at hm
  split at hm
  · split at hm
    · rename_i e2 rows p _ _ b l h1 h2
      cases hm
      obtain ⟨e, h3, h4, h5, h6⟩ := hp
      subst e
      obtain ⟨t, h7, h8⟩ := h b p l h3 h4 h5 h6
      exact ⟨_, _, h8.weaken (.cons (fun _ _ _ _ _ h => h) (.cons ((eList cStr).ok _ _ h2) .nil)), hk _ _ h7⟩
    · cases hm
  · cases hm

def H_spec_l11Rd_monitor : Hint := { fs := [(95, MTreePoint), (97, OCopied_string)], kp := [(0, [0, 1]), (1, [0, 1, 4]), (2, [1, 4, 5]), (3, [1, 4, 5, 6]), (4, [1, 4, 5, 6, 7]), (5, [1, 4, 5, 7]), (6, [1, 4, 5, 7]), (7, [1, 4, 5, 7]), (8, [1, 4, 5, 7]), (9, [4, 7]), (10, [4, 7]), (11, [1, 4, 5, 7]), (12, [1, 4, 5, 7]), (13, [1, 4, 5, 7]), (14, [1, 4, 5, 7]), (15, [1, 4, 5, 7, 8]), (16, [1, 4, 5, 7]), (17, [1, 4, 5, 7]), (18, [1, 4, 5, 7, 8]), (19, [1, 4, 5, 7, 8]), (20, [4, 7]), (21, [4, 7]), (22, [1, 4, 5, 7, 8]), (23, [1, 4, 5, 7, 8]), (24, [4, 5, 7, 8]), (25, [4, 7, 8]), (26, [4, 7])], an := [], rs := [(61, RPick), (94, RClient), (96, RDigest)], own := true, ow := [(0, 15, 1)], cut := [8, 11, 14, 18, 24, 26] }
attribute [go_sem] H_spec_l11Rd_monitor
theorem ok_H_spec_l11Rd_monitor : H_spec_l11Rd_monitor.ok Try.prog := AllOk.okR (.cons ok_spec_TreePoint (.cons ok_spec_l2Leaves .nil)) (.cons ok_spec_l1Rd_pick (.cons ok_spec_l10Client (.cons ok_spec_l1Rd_digest .nil))) mix
theorem f_monitor (b : List UInt8) (p : Int) (l : List ByteArray) (h0 : 0 ≤ p) (h1 : p + 100 ≤ rdM) (hl : l.length ≤ 100) (hx : ∀ x ∈ l, x.size ≤ 40) : ∃ t : Monitor × Int, (p ≤ t.2 ∧ t.2 ≤ p + 100 ∧ t.1.1.2.2.2.2.2.1.length ≤ 1000 ∧ t.1.2.1.length ≤ 100) ∧ VFun Try.prog 58 [rdP, (eList cStr).enc l] [some (bxP 1), some (bxP 2), some (rdR b p)] (oMonJ 3 4 t.1) [some (bxP 1), some (bxP 2), some (rdR b t.2), some (oR (cInt .i64) t.1.1.2.2.2.2.2.1), some (oR cStr t.1.2.1)] := by
  unfold rdM at h1
  refine VFun_relE (n := 113) (rs := [.cell 4 41]) Try.func58 rfl rfl rfl rfl H_spec_l11Rd_monitor ok_H_spec_l11Rd_monitor  (rin := [bxP 1, bxP 2, rdR b p]) (T := Monitor × Int) (fun t => oMonJ 3 4 t.1) (fun t => [some (bxP 1), some (bxP 2), some (rdR b t.2), some (oR (cInt .i64) t.1.1.2.2.2.2.2.1), some (oR cStr t.1.2.1)]) (fun t => p ≤ t.2 ∧ t.2 ≤ p + 100 ∧ t.1.1.2.2.2.2.2.1.length ≤ 1000 ∧ t.1.2.1.length ≤ 100) (Nat.le_of_ble_eq_true rfl) (by kernel_rfl) ?_
  simp only [go_sem, ↓reduceIte, reduceCtorEq, Nat.reduceAdd, Nat.reduceMul, Nat.reduceEqDiff, Nat.reduceSub, Nat.reduceLT, Nat.reduceLeDiff, Nat.reduceAnd, Nat.reduceShiftRight, Nat.reduceBEq, Nat.reduceBNe, Nat.reduceBneDiff, Nat.reduceBeqDiff, Int.reduceToNat, Int.reduceLE, Int.reduceLT, Int.reduceEq]
  refine ⟨⟨by omega, by omega⟩, fun c p0 g0 => ?_⟩
  obtain ⟨need, many, ses, ph, goal, xs, pin⟩ := c
  dsimp only at g0
  refine CutS.intro (H := H_spec_l11Rd_monitor) ok_H_spec_l11Rd_monitor (by kernel_rfl) (by kernel_rfl) (fun y : Client × Int => ⟨[(1, (eList cStr).enc l), (4, .x (.o (.p (1, 100) 0 0 1))), (5, .x (.o (.p (0, 2) 0 0 1))), (7, .x (.o (.p (1, 101) 0 0 1)))], [((0, 0), bxP 1), ((0, 1), bxP 2), ((0, 2), rdR b y.2), ((1, 100), .bx [zBxM]), ((1, 101), .bx [bxM y.1 (1, 102) (.c (.v (.slice none 0 0))) zPoint]), ((1, 102), .row 1 (y.1.2.2.2.2.2.1.map (cInt .i64).enc))], 2⟩) (fun y => p ≤ y.2 ∧ y.2 ≤ p + 40 ∧ y.1.2.2.2.2.2.1.length ≤ 1000) ?_ ?_
  · simp only [go_sem, ↓reduceIte, reduceCtorEq, Nat.reduceAdd, Nat.reduceMul, Nat.reduceEqDiff, Nat.reduceSub, Nat.reduceLT, Nat.reduceLeDiff, Nat.reduceAnd, Nat.reduceShiftRight, Nat.reduceBEq, Nat.reduceBNe, Nat.reduceBneDiff, Nat.reduceBeqDiff, Int.reduceToNat, Int.reduceLE, Int.reduceLT, Int.reduceEq]
    exact ite_intro (fun _ => ⟨((need, many, ses, 1, zPoint, [], pin), p0), ⟨by dsimp only; omega, by dsimp only; omega, by simp⟩, rfl⟩) fun _ => ⟨((need, many, ses, ph, goal, xs, pin), p0), ⟨by dsimp only; omega, by dsimp only; omega, by dsimp only; omega⟩, rfl⟩
  rintro ⟨⟨need, many, ses, ph, goal, xs, pin⟩, p1⟩ g1
  dsimp only at g1
  refine CutS.intro (H := H_spec_l11Rd_monitor) ok_H_spec_l11Rd_monitor (by kernel_rfl) (by kernel_rfl) (fun y : Client × Int => ⟨[(1, (eList cStr).enc l), (4, .x (.o (.p (1, 100) 0 0 1))), (5, .x (.o (.p (0, 2) 0 0 1))), (7, .x (.o (.p (1, 101) 0 0 1)))], [((0, 0), bxP 1), ((0, 1), bxP 2), ((0, 2), rdR b y.2), ((1, 100), .bx [zBxM]), ((1, 101), .bx [bxM y.1 (1, 102) (.c (.v (.slice none 0 0))) zPoint]), ((1, 102), .row 1 (y.1.2.2.2.2.2.1.map (cInt .i64).enc))], 2⟩) (fun y => p ≤ y.2 ∧ y.2 ≤ p + 41 ∧ y.1.2.2.2.2.2.1.length ≤ 1000) ?_ ?_
  · simp only [go_sem, ↓reduceIte, reduceCtorEq, Nat.reduceAdd, Nat.reduceMul, Nat.reduceEqDiff, Nat.reduceSub, Nat.reduceLT, Nat.reduceLeDiff, Nat.reduceAnd, Nat.reduceShiftRight, Nat.reduceBEq, Nat.reduceBNe, Nat.reduceBneDiff, Nat.reduceBeqDiff, Int.reduceToNat, Int.reduceLE, Int.reduceLT, Int.reduceEq]
    exact ite_intro (fun _ => ⟨by omega, fun v q g => ite_intro (fun _ => ⟨(((_, _, _, _, _, xs, (_, 0, 0, 0, 0)), [], (_, 0, 0, 0, 0)), q), ⟨by dsimp only; omega, by dsimp only; omega, by dsimp only; omega, by simp⟩, rfl, rfl⟩) fun _ => ⟨((need, many, ses, ph, goal, xs, pin), q), ⟨by dsimp only; omega, by dsimp only; omega, by dsimp only; omega⟩, rfl⟩⟩) fun _ => ⟨(((_, _, _, _, _, xs, (_, 0, 0, 0, 0)), [], (_, 0, 0, 0, 0)), p1), ⟨by dsimp only; omega, by dsimp only; omega, by dsimp only; omega, by simp⟩, rfl, rfl⟩
  rintro ⟨⟨need, many, ses, ph, goal, xs, pin⟩, p2⟩ g2
  dsimp only at g2
  simp only [go_sem, ↓reduceIte, reduceCtorEq, Nat.reduceAdd, Nat.reduceMul, Nat.reduceEqDiff, Nat.reduceSub, Nat.reduceLT, Nat.reduceLeDiff, Nat.reduceAnd, Nat.reduceShiftRight, Nat.reduceBEq, Nat.reduceBNe, Nat.reduceBneDiff, Nat.reduceBeqDiff, Int.reduceToNat, Int.reduceLE, Int.reduceLT, Int.reduceEq]
  refine ⟨⟨by omega, hx⟩, ?_⟩
  refine CutS.intro (H := H_spec_l11Rd_monitor) ok_H_spec_l11Rd_monitor (by kernel_rfl) (by kernel_rfl) (fun y : Client × Int => ⟨[(1, (eList cStr).enc l), (4, .x (.o (.p (1, 100) 0 0 1))), (5, .x (.o (.p (0, 2) 0 0 1))), (7, .x (.o (.p (1, 101) 0 0 1)))], [((0, 0), bxP 1), ((0, 1), bxP 2), ((0, 2), rdR b y.2), ((1, 100), .bx [zBxM]), ((1, 101), .bx [bxM y.1 (1, 102) (.c (.v (.slice none 0 0))) zPoint]), ((1, 102), .row 1 (y.1.2.2.2.2.2.1.map (cInt .i64).enc))], 2⟩) (fun y => p ≤ y.2 ∧ y.2 ≤ p + 82 ∧ y.1.2.2.2.2.2.1.length ≤ 1000) ?_ ?_
  · simp only [go_sem, ↓reduceIte, reduceCtorEq, Nat.reduceAdd, Nat.reduceMul, Nat.reduceEqDiff, Nat.reduceSub, Nat.reduceLT, Nat.reduceLeDiff, Nat.reduceAnd, Nat.reduceShiftRight, Nat.reduceBEq, Nat.reduceBNe, Nat.reduceBneDiff, Nat.reduceBeqDiff, Int.reduceToNat, Int.reduceLE, Int.reduceLT, Int.reduceEq]
    exact ⟨by omega, fun v q g => ite_intro (fun _ => ⟨by omega, fun d q2 g2 => ⟨((need, many, ses, ph, goal, xs, (_, d)), q2), ⟨by dsimp only; omega, by dsimp only; omega, by dsimp only; omega⟩, rfl⟩⟩) fun _ => ⟨((need, many, ses, ph, goal, xs, _), q), ⟨by dsimp only; omega, by dsimp only; omega, by dsimp only; omega⟩, rfl⟩⟩
  rintro ⟨⟨need, many, ses, ph, goal, xs, pin⟩, p3⟩ g3
  dsimp only at g3
  simp only [go_sem, ↓reduceIte, reduceCtorEq, Nat.reduceAdd, Nat.reduceMul, Nat.reduceEqDiff, Nat.reduceSub, Nat.reduceLT, Nat.reduceLeDiff, Nat.reduceAnd, Nat.reduceShiftRight, Nat.reduceBEq, Nat.reduceBNe, Nat.reduceBneDiff, Nat.reduceBeqDiff, Int.reduceToNat, Int.reduceLE, Int.reduceLT, Int.reduceEq]
  refine ⟨by omega, fun h4 p4 g4 => ?_⟩
  refine CutS.intro (H := H_spec_l11Rd_monitor) ok_H_spec_l11Rd_monitor (by kernel_rfl) (by kernel_rfl) (fun y : Client × Int × Int => ⟨[(1, (eList cStr).enc l), (4, .x (.o (.p (1, 100) 0 0 1))), (5, .x (.o (.p (0, 2) 0 0 1))), (7, .x (.o (.p (1, 101) 0 0 1))), (8, sc (.int .i64 y.2.1))], [((0, 0), bxP 1), ((0, 1), bxP 2), ((0, 2), rdR b y.2.2), ((1, 100), .bx [zBxM]), ((1, 101), .bx [bxM y.1 (1, 102) (.c (.v (.slice none 0 0))) zPoint]), ((1, 102), .row 1 (y.1.2.2.2.2.2.1.map (cInt .i64).enc))], 2⟩) (fun y => p ≤ y.2.2 ∧ y.2.2 ≤ p + 84 ∧ y.1.2.2.2.2.2.1.length ≤ 1000 ∧ 0 ≤ y.2.1 ∧ y.2.1 ≤ l.length) ?_ ?_
  · simp only [go_sem, ↓reduceIte, reduceCtorEq, Nat.reduceAdd, Nat.reduceMul, Nat.reduceEqDiff, Nat.reduceSub, Nat.reduceLT, Nat.reduceLeDiff, Nat.reduceAnd, Nat.reduceShiftRight, Nat.reduceBEq, Nat.reduceBNe, Nat.reduceBneDiff, Nat.reduceBeqDiff, Int.reduceToNat, Int.reduceLE, Int.reduceLT, Int.reduceEq]
    exact ⟨by omega, fun v q g => ite_intro (fun _ => ⟨⟨by omega, hx⟩, ⟨((need, many, ses, ph, goal, xs, _), l.length, q), ⟨by dsimp only; omega, by dsimp only; omega, by dsimp only; omega, by dsimp only; omega, by dsimp only; omega⟩, rfl⟩⟩) fun _ => ⟨((need, many, ses, ph, goal, xs, _), h4, q), ⟨by dsimp only; omega, by dsimp only; omega, by dsimp only; omega, by dsimp only; omega, by dsimp only; omega⟩, rfl⟩⟩
  rintro ⟨⟨need, many, ses, ph, goal, xs, pin⟩, n, p5⟩ g5
  dsimp only at g5
  obtain ⟨n, rfl⟩ := Int.eq_ofNat_of_zero_le g5.2.2.2.1
  have ht : (l.take n).length = n := by rw [List.length_take]; omega
  obtain ⟨ls, hls⟩ : ∃ ls, l.take n = ls := ⟨_, rfl⟩
  rw [hls] at ht
  simp only [go_sem, ↓reduceIte, reduceCtorEq, Nat.reduceAdd, Nat.reduceMul, Nat.reduceEqDiff, Nat.reduceSub, Nat.reduceLT, Nat.reduceLeDiff, Nat.reduceAnd, Nat.reduceShiftRight, Nat.reduceBEq, Nat.reduceBNe, Nat.reduceBneDiff, Nat.reduceBeqDiff, Int.reduceToNat, Int.reduceLE, Int.reduceLT, Int.reduceEq, hls]
  refine ⟨by omega, by omega, ite_intro (fun _ => ⟨(((need, many, ses, ph, goal, xs, pin), ls, pin), p5), ⟨by dsimp only; omega, by dsimp only; omega, by dsimp only; omega, by dsimp only; omega⟩, rfl, rfl⟩) fun h6 => ?_⟩
  refine CutS.intro (H := H_spec_l11Rd_monitor) ok_H_spec_l11Rd_monitor (by kernel_rfl) (by kernel_rfl) (fun y : Point × Int => ⟨[(4, .x (.o (.p (1, 100) 0 0 1))), (5, .x (.o (.p (0, 2) 0 0 1))), (7, .x (.o (.p (1, 101) 0 0 1))), (8, sc (.int .i64 n))], [((0, 0), bxP 1), ((0, 1), bxP 2), ((0, 2), rdR b y.2), ((1, 100), .bx [zBxM]), ((1, 101), .bx [bxM ((need, many, ses, ph, goal, xs, pin) : Client) (1, 102) (.h (1, 103) 0 ls.length ls.length) y.1]), ((1, 102), .row 1 (((need, many, ses, ph, goal, xs, pin) : Client).2.2.2.2.2.1.map (cInt .i64).enc)), ((1, 103), .row 1 (ls.map cStr.enc))], 2⟩) (fun y => p ≤ y.2 ∧ y.2 ≤ p + 88 ∧ 0 ≤ y.1.1) ?_ ?_
  · simp only [go_sem, ↓reduceIte, reduceCtorEq, Nat.reduceAdd, Nat.reduceMul, Nat.reduceEqDiff, Nat.reduceSub, Nat.reduceLT, Nat.reduceLeDiff, Nat.reduceAnd, Nat.reduceShiftRight, Nat.reduceBEq, Nat.reduceBNe, Nat.reduceBneDiff, Nat.reduceBeqDiff, Int.reduceToNat, Int.reduceLE, Int.reduceLT, Int.reduceEq]
    refine ite_intro (fun h7 => ⟨by omega, fun v q g => ite_intro (fun _ => ⟨by omega, fun w q2 g2 => ?_⟩) fun _ => ⟨(zPoint, q), ⟨by dsimp only; omega, by dsimp only; omega, Int.le_refl 0⟩, rfl⟩⟩) fun _ => ⟨(zPoint, p5), ⟨by dsimp only; omega, by dsimp only; omega, Int.le_refl 0⟩, rfl⟩
    have hw : IntKind.i64.wrap (1 + w) = 1 + w := by rw [wrap64] <;> omega
    simp only [hw]
    exact ⟨⟨by omega, by omega⟩, ⟨by rw [List.length_take]; omega, fun x hx' => hx x (List.mem_of_mem_take hx')⟩, ⟨(treePt _, q2), ⟨by dsimp only; omega, by dsimp only; omega, treePt_0 _⟩, rfl⟩⟩
  rintro ⟨don, p6⟩ g6
  dsimp only at g6
  refine CutS.intro (H := H_spec_l11Rd_monitor) ok_H_spec_l11Rd_monitor (by kernel_rfl) (by kernel_rfl) (fun y : List ByteArray × Int => ⟨[(4, .x (.o (.p (1, 100) 0 0 1))), (7, .x (.o (.p (1, 101) 0 0 1)))], [((0, 0), bxP 1), ((0, 1), bxP 2), ((0, 2), rdR b y.2), ((1, 100), .bx [zBxM]), ((1, 101), .bx [bxM ((need, many, ses, ph, goal, xs, pin) : Client) (1, 102) (.h (1, 103) 0 y.1.length y.1.length) don]), ((1, 102), .row 1 (((need, many, ses, ph, goal, xs, pin) : Client).2.2.2.2.2.1.map (cInt .i64).enc)), ((1, 103), .row 1 (y.1.map cStr.enc))], 2⟩) (fun y => p ≤ y.2 ∧ y.2 ≤ p + 89 ∧ y.1.length ≤ 100) ?_ ?_
  · by_cases h8 : don.1 < (n : Int)
    case neg =>
      simp only [go_sem, ↓reduceIte, reduceCtorEq, Nat.reduceAdd, Nat.reduceMul, Nat.reduceEqDiff, Nat.reduceSub, Nat.reduceLT, Nat.reduceLeDiff, Nat.reduceAnd, Nat.reduceShiftRight, Nat.reduceBEq, Nat.reduceBNe, Nat.reduceBneDiff, Nat.reduceBeqDiff, Int.reduceToNat, Int.reduceLE, Int.reduceLT, Int.reduceEq, h8]
      exact ⟨(ls, p6), ⟨by dsimp only; omega, by dsimp only; omega, by dsimp only; omega⟩, rfl⟩
    obtain ⟨m, rfl⟩ : ∃ m, n = m + 1 := ⟨n - 1, by omega⟩
    have w1 : IntKind.i64.wrap (((m + 1 : Nat) : Int) - 1) = (m : Int) := by rw [wrap64] <;> omega
    have hm : (m < ls.length) = True := eq_true (by omega)
    obtain ⟨x, hx⟩ : ∃ r, ls[m]? = some r := ⟨_, List.getElem?_eq_getElem (by omega)⟩
    simp only [go_sem, ↓reduceIte, reduceCtorEq, Nat.reduceAdd, Nat.reduceMul, Nat.reduceEqDiff, Nat.reduceSub, Nat.reduceLT, Nat.reduceLeDiff, Nat.reduceAnd, Nat.reduceShiftRight, Nat.reduceBEq, Nat.reduceBNe, Nat.reduceBneDiff, Nat.reduceBeqDiff, Int.reduceToNat, Int.reduceLE, Int.reduceLT, Int.reduceEq, h8, w1, hm, hx]
    refine ⟨by omega, fun v q g => ite_intro (fun _ => ⟨(ls.set m ⟨#[63]⟩, q), ⟨by dsimp only; omega, by dsimp only; omega, by simp; omega⟩, ?_⟩) fun _ => ⟨(ls, q), ⟨by dsimp only; omega, by dsimp only; omega, by dsimp only; omega⟩, rfl⟩⟩
    simp only [List.length_set, List.map_set]
    rfl
  rintro ⟨ls, p7⟩ g7
  dsimp only at g7
  simp only [go_sem, ↓reduceIte, reduceCtorEq, Nat.reduceAdd, Nat.reduceMul, Nat.reduceEqDiff, Nat.reduceSub, Nat.reduceLT, Nat.reduceLeDiff, Nat.reduceAnd, Nat.reduceShiftRight, Nat.reduceBEq, Nat.reduceBNe, Nat.reduceBneDiff, Nat.reduceBeqDiff, Int.reduceToNat, Int.reduceLE, Int.reduceLT, Int.reduceEq]
  exact ⟨(((need, many, ses, ph, goal, xs, pin), ls, don), p7), ⟨by dsimp only; omega, by dsimp only; omega, by dsimp only; omega, by dsimp only; omega⟩, rfl, rfl⟩
theorem ok_spec_l11Rd_monitor : RMonitor.ok Try.prog 58 := RMonitor_ok f_monitor

/-- A monitor whose leaves are read, its acks one's own. -/
abbrev oMonS (j : Nat) (m : Monitor) : E := .x (.a [.c (.v (.int .i64 m.1.1)), .c (.v (.int .i64 m.1.2.1)), .c (.v (.int .i64 m.1.2.2.1)), .c (.v (.int .i64 m.1.2.2.2.1)),
  .c (.v (.int .i64 m.1.2.2.2.2.1.1)), .c (.v (.int .u64 m.1.2.2.2.2.1.2.1.toNat)), .c (.v (.int .u64 m.1.2.2.2.2.1.2.2.1.toNat)), .c (.v (.int .u64 m.1.2.2.2.2.1.2.2.2.1.toNat)), .c (.v (.int .u64 m.1.2.2.2.2.1.2.2.2.2.toNat)),
  .h (0, j) 0 m.1.2.2.2.2.2.1.length m.1.2.2.2.2.2.1.length,
  .c (.v (.int .i64 m.1.2.2.2.2.2.2.1)), .c (.v (.int .u64 m.1.2.2.2.2.2.2.2.1.toNat)), .c (.v (.int .u64 m.1.2.2.2.2.2.2.2.2.1.toNat)), .c (.v (.int .u64 m.1.2.2.2.2.2.2.2.2.2.1.toNat)), .c (.v (.int .u64 m.1.2.2.2.2.2.2.2.2.2.2.toNat)),
  .c (.s (m.2.1.map cStr.enc)),
  .c (.v (.int .i64 m.2.2.1)), .c (.v (.int .u64 m.2.2.2.1.toNat)), .c (.v (.int .u64 m.2.2.2.2.1.toNat)), .c (.v (.int .u64 m.2.2.2.2.2.1.toNat)), .c (.v (.int .u64 m.2.2.2.2.2.2.toNat))])
attribute [go_sem] oMonS
abbrev spR (b : List UInt8) (q : Int) (xs : List Int) (ls : List ByteArray) : List (Option Root) := [some (bxP 1), some (bxP 2), some (rdR b q), some (oR (cInt .i64) xs), some (oR cStr ls)]
attribute [go_sem] spR

abbrev RSpoiltM : FR where
  md := [1]
  m args rin := match args, rin with
    | [.x (.o (.p (0, 0) 0 0 1)), e2], [.bx [[.p (0, 1) 0 0 1]], .bx [[.p (0, 2) 0 0 1]], .bx [[.c (.s rows), .c (.v (.int .i64 p))]], .row 1 rowt, .row 1 rowu] => match mapO cU8.dec rows, mapO (cInt .i64).dec rowt, mapO cStr.dec rowu with
      | some b, some xs, some ls => some (rows = b.map cU8.enc ∧ rowt = xs.map (cInt .i64).enc ∧ rowu = ls.map cStr.enc ∧ 0 ≤ p ∧ p + 100 ≤ rdM ∧ ∃ m : Monitor, e2 = oMonJ 3 4 m ∧ xs = m.1.2.2.2.2.2.1 ∧ ls = m.2.1 ∧ m.1.2.2.2.2.2.1.length ≤ 10000 ∧ m.2.1.length ≤ 10000, fun k => ∀ q, p ≤ q ∧ q ≤ p + 100 → (∀ (m : Monitor), m.1.2.2.2.2.2.1.length ≤ 20000 → m.2.1 = ls → k (oMonJ 3 4 m) (spR b q m.1.2.2.2.2.2.1 m.2.1)) ∧ ∀ (m : Monitor), m.1.2.2.2.2.2.1.length ≤ 20000 → m.2.1.length ≤ 20000 → k (oMonS 3 m) (spR b q m.1.2.2.2.2.2.1 ls))
      | _, _, _ => none
    | _, _ => none
attribute [go_sem] RSpoiltM
abbrev spV (t : Bool × Monitor × Int) : E := if t.1 then oMonJ 3 4 t.2.1 else oMonS 3 t.2.1
theorem RSpoiltM_ok {P : Program} {g : FuncId} (h : ∀ (b : List UInt8) (p : Int) (m : Monitor), 0 ≤ p → p + 100 ≤ rdM → m.1.2.2.2.2.2.1.length ≤ 10000 → m.2.1.length ≤ 10000 → ∃ t : Bool × Monitor × Int, ((p ≤ t.2.2 ∧ t.2.2 ≤ p + 100) ∧ t.2.1.1.2.2.2.2.2.1.length ≤ 20000 ∧ t.2.1.2.1.length ≤ 20000 ∧ (t.1 = true → t.2.1.2.1 = m.2.1)) ∧ VFun P g [rdP, oMonJ 3 4 m] (spR b p m.1.2.2.2.2.2.1 m.2.1) (spV t) (spR b t.2.2 t.2.1.1.2.2.2.2.2.1 m.2.1)) : RSpoiltM.ok P g := by
  intro args rin pre W hm hp k hk
  simp only [RSpoiltM] at hm
  split at hm
  · split at hm
    · cases hm
      obtain ⟨e, e2, e3, h1, h2, m, e4, e5, e6, h3, h4⟩ := hp
      subst e e2 e3 e4 e5 e6
      obtain ⟨⟨t, n, q⟩, ⟨h5, h6, h7, h8⟩, h9⟩ := h _ _ m h1 h2 h3 h4
      dsimp only at h5 h6 h7 h8 h9
      cases t
      · exact ⟨_, _, h9, (hk _ h5).2 _ h6 h7⟩
      · have := h8 rfl
        refine ⟨_, spR _ q _ n.2.1, ?_, (hk _ h5).1 _ h6 this⟩
        rw [this]
        exact h9
    · cases hm
  · cases hm

def H_spec_l11Rd_spoilt : Hint := { fs := [(97, OCopied_string)], kp := [(0, [0, 1]), (1, [0, 3, 4]), (2, [3, 4, 5]), (3, [3, 4, 5, 6]), (4, [3, 4, 5, 6]), (5, [3, 4, 5, 6]), (6, [3, 4, 5, 6]), (7, [3, 4, 5, 6]), (8, [3, 4, 5, 6]), (9, [3, 4, 5, 6]), (10, [3, 4, 5, 6]), (11, [3, 4, 6]), (12, [3, 4]), (13, [3, 4])], an := [(10, [0, 1, 3, 7, 0, 16, 63, 127, 255, 511])], rs := [(61, RPick), (99, RSpoilt)], cut := [3, 5, 7, 9, 11, 13] }
attribute [go_sem] H_spec_l11Rd_spoilt
theorem ok_H_spec_l11Rd_spoilt : H_spec_l11Rd_spoilt.ok Try.prog := AllOk.okR (.cons ok_spec_l2Leaves .nil) (.cons ok_spec_l1Rd_pick (.cons ok_spec_l10Spoilt .nil)) mix
theorem f_spoilt (b : List UInt8) (p : Int) (m : Monitor) (h0 : 0 ≤ p) (h1 : p + 100 ≤ rdM) (ha : m.1.2.2.2.2.2.1.length ≤ 10000) (hl : m.2.1.length ≤ 10000) : ∃ t : Bool × Monitor × Int, ((p ≤ t.2.2 ∧ t.2.2 ≤ p + 100) ∧ t.2.1.1.2.2.2.2.2.1.length ≤ 20000 ∧ t.2.1.2.1.length ≤ 20000 ∧ (t.1 = true → t.2.1.2.1 = m.2.1)) ∧ VFun Try.prog 62 [rdP, oMonJ 3 4 m] (spR b p m.1.2.2.2.2.2.1 m.2.1) (spV t) (spR b t.2.2 t.2.1.1.2.2.2.2.2.1 m.2.1) := by
  unfold rdM at h1
  obtain ⟨c, ls, don⟩ := m
  dsimp only at ha hl
  refine VFun_relE (n := 57) (rs := [.cell 4 41]) Try.func62 rfl rfl rfl rfl H_spec_l11Rd_spoilt ok_H_spec_l11Rd_spoilt  (rin := [bxP 1, bxP 2, rdR b p, oR (cInt .i64) c.2.2.2.2.2.1, oR cStr ls]) (T := Bool × Monitor × Int) spV (fun t => spR b t.2.2 t.2.1.1.2.2.2.2.2.1 ls) (fun t => (p ≤ t.2.2 ∧ t.2.2 ≤ p + 100) ∧ t.2.1.1.2.2.2.2.2.1.length ≤ 20000 ∧ t.2.1.2.1.length ≤ 20000 ∧ (t.1 = true → t.2.1.2.1 = ls)) (Nat.le_of_ble_eq_true rfl) (by kernel_rfl) ?_
  simp only [go_sem, ↓reduceIte, reduceCtorEq, Nat.reduceAdd, Nat.reduceMul, Nat.reduceEqDiff, Nat.reduceSub, Nat.reduceLT, Nat.reduceLeDiff, Nat.reduceAnd, Nat.reduceShiftRight, Nat.reduceBEq, Nat.reduceBNe, Nat.reduceBneDiff, Nat.reduceBeqDiff, Int.reduceToNat, Int.reduceLE, Int.reduceLT, Int.reduceEq]
  refine CutS.intro (H := H_spec_l11Rd_spoilt) ok_H_spec_l11Rd_spoilt (by kernel_rfl) (by kernel_rfl) (fun y : Int × Int => ⟨[(3, .x (.o (.p (1, 100) 0 0 1))), (4, .x (.o (.p (1, 101) 0 0 1))), (5, .x (.o (.p (0, 2) 0 0 1))), (6, sc (.int .i64 y.1))], [((0, 0), bxP 1), ((0, 1), bxP 2), ((0, 2), rdR b y.2), ((0, 3), .row 1 (c.2.2.2.2.2.1.map (cInt .i64).enc)), ((0, 4), .row 1 (ls.map cStr.enc)), ((1, 100), .bx [bxM c (0, 3) (.h (0, 4) 0 ls.length ls.length) don]), ((1, 101), .bx [zBxM])], 2⟩) (fun y => p ≤ y.2 ∧ y.2 ≤ p + 1 ∧ 0 ≤ y.1 ∧ y.1 < 5) ?_ ?_
  · simp only [go_sem, ↓reduceIte, reduceCtorEq, Nat.reduceAdd, Nat.reduceMul, Nat.reduceEqDiff, Nat.reduceSub, Nat.reduceLT, Nat.reduceLeDiff, Nat.reduceAnd, Nat.reduceShiftRight, Nat.reduceBEq, Nat.reduceBNe, Nat.reduceBneDiff, Nat.reduceBeqDiff, Int.reduceToNat, Int.reduceLE, Int.reduceLT, Int.reduceEq]
    refine ⟨by omega, ?_⟩; rintro k p0 g0
    exact ⟨(k, p0), by dsimp only; omega, rfl⟩
  rintro ⟨k, p0⟩ g0
  dsimp only at g0
  refine CutS.intro (H := H_spec_l11Rd_spoilt) ok_H_spec_l11Rd_spoilt (by kernel_rfl) (by kernel_rfl) (fun y : Client × Int => ⟨[(3, .x (.o (.p (1, 100) 0 0 1))), (4, .x (.o (.p (1, 101) 0 0 1))), (5, .x (.o (.p (0, 2) 0 0 1))), (6, sc (.int .i64 k))], [((0, 0), bxP 1), ((0, 1), bxP 2), ((0, 2), rdR b y.2), ((0, 3), .row 1 (y.1.2.2.2.2.2.1.map (cInt .i64).enc)), ((0, 4), .row 1 (ls.map cStr.enc)), ((1, 100), .bx [bxM y.1 (0, 3) (.h (0, 4) 0 ls.length ls.length) don]), ((1, 101), .bx [zBxM])], 2⟩) (fun y => p ≤ y.2 ∧ y.2 ≤ p + 70 ∧ y.1.2.2.2.2.2.1.length ≤ 10001) ?_ ?_
  · simp only [go_sem, ↓reduceIte, reduceCtorEq, Nat.reduceAdd, Nat.reduceMul, Nat.reduceEqDiff, Nat.reduceSub, Nat.reduceLT, Nat.reduceLeDiff, Nat.reduceAnd, Nat.reduceShiftRight, Nat.reduceBEq, Nat.reduceBNe, Nat.reduceBneDiff, Nat.reduceBeqDiff, Int.reduceToNat, Int.reduceLE, Int.reduceLT, Int.reduceEq]
    exact ite_intro (fun _ => ⟨⟨by omega, by omega, c, rfl, rfl, by omega⟩, fun c' q g => ⟨(c', q), ⟨by dsimp only; omega, by dsimp only; omega, by dsimp only; omega⟩, rfl⟩⟩) fun _ => ⟨(c, p0), ⟨by dsimp only; omega, by dsimp only; omega, by dsimp only; omega⟩, rfl⟩
  rintro ⟨c, p1⟩ g1
  dsimp only at g1
  by_cases hk : k = 1
  · subst hk
    refine CutS.intro (H := H_spec_l11Rd_spoilt) ok_H_spec_l11Rd_spoilt (by kernel_rfl) (by kernel_rfl) (fun y : List ByteArray => ⟨[(3, .x (.o (.p (1, 100) 0 0 1))), (4, .x (.o (.p (1, 102) 0 0 1))), (5, .x (.o (.p (0, 2) 0 0 1))), (6, sc (.int .i64 1))], [((0, 0), bxP 1), ((0, 1), bxP 2), ((0, 2), rdR b p1), ((0, 3), .row 1 (c.2.2.2.2.2.1.map (cInt .i64).enc)), ((0, 4), .row 1 (ls.map cStr.enc)), ((1, 100), .bx [bxM c (0, 3) (.h (1, 101) 0 y.length y.length) don]), ((1, 101), .row 1 (y.map cStr.enc)), ((1, 102), .bx [zBxM])], 2⟩) (fun y => y.length ≤ 10001) ?_ ?_
    · simp only [go_sem, ↓reduceIte, reduceCtorEq, Nat.reduceAdd, Nat.reduceMul, Nat.reduceEqDiff, Nat.reduceSub, Nat.reduceLT, Nat.reduceLeDiff, Nat.reduceAnd, Nat.reduceShiftRight, Nat.reduceBEq, Nat.reduceBNe, Nat.reduceBneDiff, Nat.reduceBeqDiff, Int.reduceToNat, Int.reduceLE, Int.reduceLT, Int.reduceEq]
      exact ⟨by omega, by omega, ls ++ [⟨#[122]⟩], by simp; omega, by rw [List.length_append, List.map_append]; rfl⟩
    rintro l2 hl2
    refine CutS.intro (H := H_spec_l11Rd_spoilt) ok_H_spec_l11Rd_spoilt (by kernel_rfl) (by kernel_rfl) (fun y : Unit => ⟨[(3, .x (.o (.p (1, 100) 0 0 1))), (4, .x (.o (.p (1, 102) 0 0 1))), (5, .x (.o (.p (0, 2) 0 0 1))), (6, sc (.int .i64 1))], [((0, 0), bxP 1), ((0, 1), bxP 2), ((0, 2), rdR b p1), ((0, 3), .row 1 (c.2.2.2.2.2.1.map (cInt .i64).enc)), ((0, 4), .row 1 (ls.map cStr.enc)), ((1, 100), .bx [bxM c (0, 3) (.h (1, 101) 0 l2.length l2.length) don]), ((1, 101), .row 1 (l2.map cStr.enc)), ((1, 102), .bx [zBxM])], 2⟩) (fun y => True) ?_ ?_
    · simp only [go_sem, ↓reduceIte, reduceCtorEq, Nat.reduceAdd, Nat.reduceMul, Nat.reduceEqDiff, Nat.reduceSub, Nat.reduceLT, Nat.reduceLeDiff, Nat.reduceAnd, Nat.reduceShiftRight, Nat.reduceBEq, Nat.reduceBNe, Nat.reduceBneDiff, Nat.reduceBeqDiff, Int.reduceToNat, Int.reduceLE, Int.reduceLT, Int.reduceEq]
      exact ⟨(), trivial⟩
    rintro _ _
    refine CutS.intro (H := H_spec_l11Rd_spoilt) ok_H_spec_l11Rd_spoilt (by kernel_rfl) (by kernel_rfl) (fun y : Unit => ⟨[(3, .x (.o (.p (1, 100) 0 0 1))), (4, .x (.o (.p (1, 102) 0 0 1))), (6, sc (.int .i64 1))], [((0, 0), bxP 1), ((0, 1), bxP 2), ((0, 2), rdR b p1), ((0, 3), .row 1 (c.2.2.2.2.2.1.map (cInt .i64).enc)), ((0, 4), .row 1 (ls.map cStr.enc)), ((1, 100), .bx [bxM c (0, 3) (.h (1, 101) 0 l2.length l2.length) don]), ((1, 101), .row 1 (l2.map cStr.enc)), ((1, 102), .bx [zBxM])], 2⟩) (fun y => True) ?_ ?_
    · simp only [go_sem, ↓reduceIte, reduceCtorEq, Nat.reduceAdd, Nat.reduceMul, Nat.reduceEqDiff, Nat.reduceSub, Nat.reduceLT, Nat.reduceLeDiff, Nat.reduceAnd, Nat.reduceShiftRight, Nat.reduceBEq, Nat.reduceBNe, Nat.reduceBneDiff, Nat.reduceBeqDiff, Int.reduceToNat, Int.reduceLE, Int.reduceLT, Int.reduceEq]
      exact ⟨(), trivial⟩
    rintro _ _
    refine CutS.intro (H := H_spec_l11Rd_spoilt) ok_H_spec_l11Rd_spoilt (by kernel_rfl) (by kernel_rfl) (fun y : Unit => ⟨[(3, .x (.o (.p (1, 100) 0 0 1))), (4, .x (.o (.p (1, 102) 0 0 1)))], [((0, 0), bxP 1), ((0, 1), bxP 2), ((0, 2), rdR b p1), ((0, 3), .row 1 (c.2.2.2.2.2.1.map (cInt .i64).enc)), ((0, 4), .row 1 (ls.map cStr.enc)), ((1, 100), .bx [bxM c (0, 3) (.h (1, 101) 0 l2.length l2.length) don]), ((1, 101), .row 1 (l2.map cStr.enc)), ((1, 102), .bx [zBxM])], 2⟩) (fun y => True) ?_ ?_
    · simp only [go_sem, ↓reduceIte, reduceCtorEq, Nat.reduceAdd, Nat.reduceMul, Nat.reduceEqDiff, Nat.reduceSub, Nat.reduceLT, Nat.reduceLeDiff, Nat.reduceAnd, Nat.reduceShiftRight, Nat.reduceBEq, Nat.reduceBNe, Nat.reduceBneDiff, Nat.reduceBeqDiff, Int.reduceToNat, Int.reduceLE, Int.reduceLT, Int.reduceEq]
      exact ⟨(), trivial⟩
    rintro _ _
    simp only [go_sem, ↓reduceIte, reduceCtorEq, Nat.reduceAdd, Nat.reduceMul, Nat.reduceEqDiff, Nat.reduceSub, Nat.reduceLT, Nat.reduceLeDiff, Nat.reduceAnd, Nat.reduceShiftRight, Nat.reduceBEq, Nat.reduceBNe, Nat.reduceBneDiff, Nat.reduceBeqDiff, Int.reduceToNat, Int.reduceLE, Int.reduceLT, Int.reduceEq]
    exact ⟨(false, (c, l2, don), p1), ⟨⟨by dsimp only; omega, by dsimp only; omega⟩, by dsimp only; omega, by dsimp only; omega, fun h => by cases h⟩, rfl, rfl⟩
  have hk' : (k = 1) = False := eq_false hk
  refine CutS.intro (H := H_spec_l11Rd_spoilt) ok_H_spec_l11Rd_spoilt (by kernel_rfl) (by kernel_rfl) (fun y : Unit => ⟨[(3, .x (.o (.p (1, 100) 0 0 1))), (4, .x (.o (.p (1, 101) 0 0 1))), (5, .x (.o (.p (0, 2) 0 0 1))), (6, sc (.int .i64 k))], [((0, 0), bxP 1), ((0, 1), bxP 2), ((0, 2), rdR b p1), ((0, 3), .row 1 (c.2.2.2.2.2.1.map (cInt .i64).enc)), ((0, 4), .row 1 (ls.map cStr.enc)), ((1, 100), .bx [bxM c (0, 3) (.h (0, 4) 0 ls.length ls.length) don]), ((1, 101), .bx [zBxM])], 2⟩) (fun y => True) ?_ ?_
  · simp only [go_sem, ↓reduceIte, reduceCtorEq, Nat.reduceAdd, Nat.reduceMul, Nat.reduceEqDiff, Nat.reduceSub, Nat.reduceLT, Nat.reduceLeDiff, Nat.reduceAnd, Nat.reduceShiftRight, Nat.reduceBEq, Nat.reduceBNe, Nat.reduceBneDiff, Nat.reduceBeqDiff, Int.reduceToNat, Int.reduceLE, Int.reduceLT, Int.reduceEq, hk']
    exact ⟨(), trivial⟩
  rintro _ _
  refine CutS.intro (H := H_spec_l11Rd_spoilt) ok_H_spec_l11Rd_spoilt (by kernel_rfl) (by kernel_rfl) (fun y : Point => ⟨[(3, .x (.o (.p (1, 100) 0 0 1))), (4, .x (.o (.p (1, 101) 0 0 1))), (5, .x (.o (.p (0, 2) 0 0 1))), (6, sc (.int .i64 k))], [((0, 0), bxP 1), ((0, 1), bxP 2), ((0, 2), rdR b p1), ((0, 3), .row 1 (c.2.2.2.2.2.1.map (cInt .i64).enc)), ((0, 4), .row 1 (ls.map cStr.enc)), ((1, 100), .bx [bxM c (0, 3) (.h (0, 4) 0 ls.length ls.length) y]), ((1, 101), .bx [zBxM])], 2⟩) (fun y => True) ?_ ?_
  · simp only [go_sem, ↓reduceIte, reduceCtorEq, Nat.reduceAdd, Nat.reduceMul, Nat.reduceEqDiff, Nat.reduceSub, Nat.reduceLT, Nat.reduceLeDiff, Nat.reduceAnd, Nat.reduceShiftRight, Nat.reduceBEq, Nat.reduceBNe, Nat.reduceBneDiff, Nat.reduceBeqDiff, Int.reduceToNat, Int.reduceLE, Int.reduceLT, Int.reduceEq, wrapU]
    exact ite_intro (fun _ => ⟨(don.1, uOf ((don.2.1.toNat : Int) + 1), don.2.2), rfl⟩) fun _ => ⟨don, rfl⟩
  rintro don _
  refine CutS.intro (H := H_spec_l11Rd_spoilt) ok_H_spec_l11Rd_spoilt (by kernel_rfl) (by kernel_rfl) (fun y : Point × Int => ⟨[(3, .x (.o (.p (1, 100) 0 0 1))), (4, .x (.o (.p (1, 101) 0 0 1))), (6, sc (.int .i64 k))], [((0, 0), bxP 1), ((0, 1), bxP 2), ((0, 2), rdR b y.2), ((0, 3), .row 1 (c.2.2.2.2.2.1.map (cInt .i64).enc)), ((0, 4), .row 1 (ls.map cStr.enc)), ((1, 100), .bx [bxM c (0, 3) (.h (0, 4) 0 ls.length ls.length) y.1]), ((1, 101), .bx [zBxM])], 2⟩) (fun y => p ≤ y.2 ∧ y.2 ≤ p + 71) ?_ ?_
  · simp only [go_sem, ↓reduceIte, reduceCtorEq, Nat.reduceAdd, Nat.reduceMul, Nat.reduceEqDiff, Nat.reduceSub, Nat.reduceLT, Nat.reduceLeDiff, Nat.reduceAnd, Nat.reduceShiftRight, Nat.reduceBEq, Nat.reduceBNe, Nat.reduceBneDiff, Nat.reduceBeqDiff, Int.reduceToNat, Int.reduceLE, Int.reduceLT, Int.reduceEq]
    exact ite_intro (fun _ => ⟨by omega, fun v q g => ⟨((_, don.2), q), ⟨by dsimp only; omega, by dsimp only; omega⟩, rfl⟩⟩) fun _ => ⟨(don, p1), ⟨by dsimp only; omega, by dsimp only; omega⟩, rfl⟩
  rintro ⟨don, p2⟩ g2
  dsimp only at g2
  refine CutS.intro (H := H_spec_l11Rd_spoilt) ok_H_spec_l11Rd_spoilt (by kernel_rfl) (by kernel_rfl) (fun y : Point => ⟨[(3, .x (.o (.p (1, 100) 0 0 1))), (4, .x (.o (.p (1, 101) 0 0 1)))], [((0, 0), bxP 1), ((0, 1), bxP 2), ((0, 2), rdR b p2), ((0, 3), .row 1 (c.2.2.2.2.2.1.map (cInt .i64).enc)), ((0, 4), .row 1 (ls.map cStr.enc)), ((1, 100), .bx [bxM c (0, 3) (.h (0, 4) 0 ls.length ls.length) y]), ((1, 101), .bx [zBxM])], 2⟩) (fun y => True) ?_ ?_
  · simp only [go_sem, ↓reduceIte, reduceCtorEq, Nat.reduceAdd, Nat.reduceMul, Nat.reduceEqDiff, Nat.reduceSub, Nat.reduceLT, Nat.reduceLeDiff, Nat.reduceAnd, Nat.reduceShiftRight, Nat.reduceBEq, Nat.reduceBNe, Nat.reduceBneDiff, Nat.reduceBeqDiff, Int.reduceToNat, Int.reduceLE, Int.reduceLT, Int.reduceEq]
    exact ite_intro (fun _ => ⟨zPoint, rfl⟩) fun _ => ⟨don, rfl⟩
  rintro don _
  simp only [go_sem, ↓reduceIte, reduceCtorEq, Nat.reduceAdd, Nat.reduceMul, Nat.reduceEqDiff, Nat.reduceSub, Nat.reduceLT, Nat.reduceLeDiff, Nat.reduceAnd, Nat.reduceShiftRight, Nat.reduceBEq, Nat.reduceBNe, Nat.reduceBneDiff, Nat.reduceBeqDiff, Int.reduceToNat, Int.reduceLE, Int.reduceLT, Int.reduceEq]
  exact ⟨(true, (c, ls, don), p2), ⟨⟨by dsimp only; omega, by dsimp only; omega⟩, by dsimp only; omega, by dsimp only; omega, fun _ => rfl⟩, rfl, rfl⟩
theorem ok_spec_l11Rd_spoilt : RSpoiltM.ok Try.prog 62 := RSpoiltM_ok f_spoilt

abbrev eMonMe : CE (Monitor × Int) := eT2 (CE.st cMonitor) (eInt .i64) (st_x _) (one_x _ _)
attribute [go_sem] eMonMe
abbrev monMeP (t : Monitor × Int) : Prop := t.1.1.2.2.2.2.2.1.length ≤ 1048576 ∧ t.1.2.1.length ≤ 1048576 ∧ (t.2 = 0 ∨ t.2 = 9)

def H_spec_DrawMonitorTick : Hint := { fs := [(57, O3)], kp := [(0, [0]), (1, [0, 2]), (2, [2, 4]), (3, [2, 4, 5]), (4, [2, 4, 5, 6]), (5, [2, 4, 5, 6]), (6, [2, 5, 6]), (7, [2, 5]), (8, [2, 5])], an := [(2, [0, 0, 2, 6, 14, 0, 32, 96, 224, 480, 1022, 2047, 0, 8191])], rs := [(58, RMonitor), (59, RLeaves), (60, RSize), (61, RPick), (62, RSpoiltM)] }
attribute [go_sem] H_spec_DrawMonitorTick
theorem ok_H_spec_DrawMonitorTick : H_spec_DrawMonitorTick.ok Try.prog := AllOk.okR (.cons ok_spec_l11Open .nil) (.cons ok_spec_l11Rd_monitor (.cons ok_spec_l2Rd_leaves (.cons ok_spec_l2Rd_size (.cons ok_spec_l1Rd_pick (.cons ok_spec_l11Rd_spoilt .nil))))) mix
theorem f_DrawMonitorTick (b : List UInt8) (hb : b.length ≤ 1048576) : ∃ t : Monitor × Int, monMeP t ∧ VFun Try.prog 20 [(eList cU8).enc b] [] (eMonMe.enc t) [] := by
  refine VFun_rel (n := 38) (rs := [.cell 2 41, .tmp 3]) Try.func20 rfl rfl rfl rfl H_spec_DrawMonitorTick ok_H_spec_DrawMonitorTick  (rin := []) (T := Monitor × Int) eMonMe (fun t => t) (fun t => []) monMeP (Nat.le_of_ble_eq_true rfl) (by kernel_rfl) ?_
  simp only [go_sem, ↓reduceIte, reduceCtorEq, Nat.reduceAdd, Nat.reduceMul, Nat.reduceEqDiff, Nat.reduceSub, Nat.reduceLT, Nat.reduceLeDiff, Nat.reduceAnd, Nat.reduceShiftRight, Nat.reduceBEq, Nat.reduceBNe, Nat.reduceBneDiff, Nat.reduceBeqDiff, Int.reduceToNat, Int.reduceLE, Int.reduceLT, Int.reduceEq]
  refine ⟨by omega, by omega, fun n q g => ⟨⟨by omega, by omega, by omega, by omega⟩, fun l q1 g1 => ⟨⟨by omega, by omega, by omega, g1.2.2.2⟩, fun m q2 g2 => ⟨⟨by omega, by omega⟩, fun k q3 g3 => ?_⟩⟩⟩⟩
  have fin : ∀ (m' : Monitor), m'.1.2.2.2.2.2.1.length ≤ 20000 → m'.2.1.length ≤ 20000 → if k = 1 then ∃ t, monMeP t ∧ some (m', (0 : Int)) = some t else ∃ t, monMeP t ∧ some (m', (9 : Int)) = some t := fun m' ha hl =>
    ite_intro (fun _ => ⟨(m', 0), ⟨by dsimp only; omega, by dsimp only; omega, .inl rfl⟩, rfl⟩) fun _ => ⟨(m', 9), ⟨by dsimp only; omega, by dsimp only; omega, .inr rfl⟩, rfl⟩
  exact ite_intro (fun _ => ⟨⟨by omega, by omega, m, rfl, rfl, rfl, by omega, by omega⟩, fun q4 g4 => ⟨fun m' h1 h2 => fin m' h1 (by rw [h2]; omega), fun m' h1 h2 => fin m' h1 h2⟩⟩) fun _ => fin m (by omega) (by omega)
abbrev RDrawMT : FR := .dr eMonMe monMeP
attribute [go_sem] RDrawMT
theorem ok_spec_DrawMonitorTick : RDrawMT.ok Try.prog 20 := FR.dr_ok fun b hb => f_DrawMonitorTick b hb

def H_laws_sameClient : Hint := { fs := [], kp := [(0, [0, 1]), (1, [2, 3]), (2, []), (3, [2, 3]), (4, [2, 3, 5]), (6, [2, 3, 5]), (7, []), (5, [2, 3, 5]), (8, [])], an := [(6, [0, 1, 0, 7, 15, 0, 32, 0, 224, 480, 1023])] }
attribute [go_sem] H_laws_sameClient
theorem ok_H_laws_sameClient : H_laws_sameClient.ok Try.prog := AllOk.okR .nil .nil mix
theorem f_sameClient (c : Client) (h : c.2.2.2.2.2.1.length ≤ 1100000) : VFun Try.prog 23 [(CE.st cClient).enc c, (CE.st cClient).enc c] [] (eBool.enc true) [] := by
  obtain ⟨need, many, ses, ph, goal, xs, pin⟩ := c
  dsimp only at h
  refine VFun_pure (n := 73) (rs := [.tmp 4]) Try.func23 rfl rfl rfl rfl H_laws_sameClient ok_H_laws_sameClient _ _ (Nat.le_of_ble_eq_true rfl) (by kernel_rfl) ?_
  simp only [go_sem, ↓reduceIte, reduceCtorEq, Nat.reduceAdd, Nat.reduceMul, Nat.reduceEqDiff, Nat.reduceSub, Nat.reduceLT, Nat.reduceLeDiff, Nat.reduceAnd, Nat.reduceShiftRight, Nat.reduceBEq, Nat.reduceBNe, Nat.reduceBneDiff, Nat.reduceBeqDiff, Int.reduceToNat, Int.reduceLE, Int.reduceLT, Int.reduceEq]
  refine LoopV.go (H := H_laws_sameClient) ok_H_laws_sameClient (by kernel_rfl) (fun i : Nat => ⟨[(2, .x (.o (.p (1, 100) 0 0 1))), (3, .x (.o (.p (1, 101) 0 0 1))), (5, sc (.int .i64 i))], [((1, 100), .bx [bxClient (need, many, ses, ph, goal, xs, pin)]), ((1, 101), .bx [bxClient (need, many, ses, ph, goal, xs, pin)])], 2⟩) (fun i => xs.length - i) (fun i => i ≤ xs.length) ?_ 0 (Nat.zero_le _)
  intro i hi
  have w1 : IntKind.i64.wrap ((i : Int) + 1) = ((i + 1 : Nat) : Int) := by rw [wrap64] <;> omega
  by_cases hlt : i < xs.length
  · have c1 : ((i : Int) < (xs.length : Int)) = True := eq_true (by omega)
    obtain ⟨x, hx⟩ : ∃ r, xs[i]? = some r := ⟨_, List.getElem?_eq_getElem hlt⟩
    simp only [go_sem, ↓reduceIte, reduceCtorEq, Nat.reduceAdd, Nat.reduceMul, Nat.reduceEqDiff, Nat.reduceSub, Nat.reduceLT, Nat.reduceLeDiff, Nat.reduceAnd, Nat.reduceShiftRight, Nat.reduceBEq, Nat.reduceBNe, Nat.reduceBneDiff, Nat.reduceBeqDiff, Int.reduceToNat, Int.reduceLE, Int.reduceLT, Int.reduceEq, c1, w1, hx, eq_true hlt]
    exact ⟨i + 1, by omega, by omega, rfl⟩
  · have c1 : ((i : Int) < (xs.length : Int)) = False := eq_false (by omega)
    simp only [go_sem, ↓reduceIte, reduceCtorEq, Nat.reduceAdd, Nat.reduceMul, Nat.reduceEqDiff, Nat.reduceSub, Nat.reduceLT, Nat.reduceLeDiff, Nat.reduceAnd, Nat.reduceShiftRight, Nat.reduceBEq, Nat.reduceBNe, Nat.reduceBneDiff, Nat.reduceBeqDiff, Int.reduceToNat, Int.reduceLE, Int.reduceLT, Int.reduceEq, c1]
abbrev MSameClient : FM := .f2 (CE.st cClient) (CE.st cClient) eBool.enc (fun _ _ => true) (fun x y => x = y ∧ x.2.2.2.2.2.1.length ≤ 1100000)
attribute [go_sem] MSameClient
theorem ok_laws_sameClient : MSameClient.ok Try.prog 23 := FM.f2_ok fun x y h => by rw [← h.1]; exact f_sameClient x h.2

/-- A reader of a text. -/
abbrev rd5 (s : ByteArray) (p : Int) : Root := .bx [[.c (.v (.string s)), .c (.v (.int .i64 p)), .c (.v (.int .i64 0)), .c (.v (.int .i64 0))]]
def numN (l : List UInt8) : Nat := l.foldl (fun v b => 256 * v + b.toNat) 0
theorem numN_app (l : List UInt8) (b : UInt8) : numN (l ++ [b]) = 256 * numN l + b.toNat := by simp [numN]
theorem numN_lt (l : List UInt8) : ∀ i, i ≤ l.length → numN (l.take i) < 256 ^ i
  | 0, _ => by rw [List.take_zero]; decide
  | i + 1, h => by
    have ih := numN_lt l i (by omega)
    obtain ⟨b, hb⟩ : ∃ r, l[i]? = some r := ⟨_, List.getElem?_eq_getElem (by omega)⟩
    have e : l.take (i + 1) = l.take i ++ [b] := by rw [List.take_add_one, hb]; rfl
    rw [e, numN_app, Nat.pow_succ]
    have := b.toNat_lt
    omega
def FM.raw5 : FM := ⟨[], fun args rin => match args, rin with
  | [.x (.o (.p (0, 0) 0 0 1)), .x (.o (.c (.v (.int .i64 n))))], [.bx [[.c (.v (.string s)), .c (.v (.int .i64 p)), .c (.v (.int .i64 0)), .c (.v (.int .i64 0))]]] => some (eStr.enc (s.extract p.toNat (p + n).toNat), [some (rd5 s (p + n))], 0 ≤ p ∧ 0 ≤ n ∧ p + n ≤ s.size ∧ s.size ≤ 1000000)
  | _, _ => none⟩
theorem FM.raw5_ok {P : Program} {g : FuncId} (h : ∀ s p n, 0 ≤ p → 0 ≤ n → p + n ≤ (s.size : Int) → s.size ≤ 1000000 → VFun P g [rdP, (eInt .i64).enc n] [some (rd5 s p)] (eStr.enc (s.extract p.toNat (p + n).toNat)) [some (rd5 s (p + n))]) : FM.raw5.ok P g := by
  intro args rin res rout p hm hp
  simp only [FM.raw5] at hm
  split at hm
  · cases hm
    exact h _ _ _ hp.1 hp.2.1 hp.2.2.1 hp.2.2.2
  · cases hm
def FM.num5 : FM := ⟨[], fun args rin => match args, rin with
  | [.x (.o (.p (0, 0) 0 0 1)), .x (.o (.c (.v (.int .i64 n)))), .x (.o (.c (.v (.int .i64 lo)))), .x (.o (.c (.v (.int .i64 hi))))], [.bx [[.c (.v (.string s)), .c (.v (.int .i64 p)), .c (.v (.int .i64 0)), .c (.v (.int .i64 0))]]] => some ((eInt .i64).enc (numN (s.extract p.toNat (p + n).toNat).data.toList), [some (rd5 s (p + n))], (0 ≤ p ∧ 0 ≤ n ∧ n ≤ 3 ∧ p + n ≤ s.size ∧ s.size ≤ 1000000) ∧ lo ≤ numN (s.extract p.toNat (p + n).toNat).data.toList ∧ numN (s.extract p.toNat (p + n).toNat).data.toList ≤ hi)
  | _, _ => none⟩
theorem FM.num5_ok {P : Program} {g : FuncId} (h : ∀ s p n lo hi, (0 ≤ p ∧ 0 ≤ n ∧ n ≤ 3 ∧ p + n ≤ (s.size : Int) ∧ s.size ≤ 1000000) → lo ≤ (numN (s.extract p.toNat (p + n).toNat).data.toList : Int) → (numN (s.extract p.toNat (p + n).toNat).data.toList : Int) ≤ hi → VFun P g [rdP, (eInt .i64).enc n, (eInt .i64).enc lo, (eInt .i64).enc hi] [some (rd5 s p)] ((eInt .i64).enc (numN (s.extract p.toNat (p + n).toNat).data.toList)) [some (rd5 s (p + n))]) : FM.num5.ok P g := by
  intro args rin res rout p hm hp
  simp only [FM.num5] at hm
  split at hm
  · cases hm
    exact h _ _ _ _ _ hp.1 hp.2.1 hp.2.2
  · cases hm
attribute [go_sem] FM.raw5 FM.num5 rd5

def H_spec_l5Rd_raw : Hint := { fs := [], kp := [(0, [0, 1]), (1, [0, 1]), (2, []), (3, [0, 1]), (4, [0]), (5, []), (6, [0, 1]), (7, [0, 1, 5]), (8, [5])], an := [(3, [0, 0, 2, 6, 14, 30, 0, 64, 192, 448, 1022, 2047]), (6, [0, 1, 3, 7, 0, 16, 48, 112, 0, 256, 768, 1792, 0, 7936, 16383, 32767])] }
attribute [go_sem] H_spec_l5Rd_raw
theorem ok_H_spec_l5Rd_raw : H_spec_l5Rd_raw.ok Try.prog := AllOk.okR .nil .nil mix
theorem f_raw5 (s : ByteArray) (p n : Int) (h0 : 0 ≤ p) (h1 : 0 ≤ n) (h2 : p + n ≤ (s.size : Int)) (h3 : s.size ≤ 1000000) : VFun Try.prog 71 [rdP, (eInt .i64).enc n] [some (rd5 s p)] (eStr.enc (s.extract p.toNat (p + n).toNat)) [some (rd5 s (p + n))] := by
  have w1 : IntKind.i64.wrap ((s.size : Int) - p) = (s.size : Int) - p := by rw [wrap64] <;> omega
  have w2 : IntKind.i64.wrap (p + n) = p + n := by rw [wrap64] <;> omega
  have c1 : ((s.size : Int) - p < n) = False := eq_false (by omega)
  refine VFun_own (rin := [rd5 s p]) (n := 56) (rs := [.tmp 4]) Try.func71 rfl rfl rfl rfl H_spec_l5Rd_raw ok_H_spec_l5Rd_raw (Nat.le_of_ble_eq_true rfl) (by kernel_rfl) ?_
  simp only [go_sem, ↓reduceIte, reduceCtorEq, Nat.reduceAdd, Nat.reduceMul, Nat.reduceEqDiff, Nat.reduceSub, Nat.reduceLT, Nat.reduceLeDiff, Nat.reduceAnd, Nat.reduceShiftRight, Nat.reduceBEq, Nat.reduceBNe, Nat.reduceBneDiff, Nat.reduceBeqDiff, Int.reduceToNat, Int.reduceLE, Int.reduceLT, Int.reduceEq, w1, w2, c1]
  exact ⟨h0, by omega, h2⟩
theorem ok_spec_l5Rd_raw : FM.raw5.ok Try.prog 71 := FM.raw5_ok f_raw5

def H_spec_l5Rd_num : Hint := { fs := [(28, M166), (71, FM.raw5)], kp := [(0, [0, 1, 2, 3]), (1, [0, 1, 2, 3]), (2, [0, 1, 2, 3, 9]), (3, [0, 2, 3, 9, 10]), (4, [0, 2, 3, 9, 10, 11]), (5, [0, 2, 3, 9, 10, 11, 12]), (7, [0, 2, 3, 9, 10, 11, 12]), (6, [0, 2, 3, 9, 10, 11, 12]), (8, [0, 2, 3, 9, 11]), (9, [0, 9, 11]), (10, [0, 11]), (11, []), (12, [11])], an := [] }
attribute [go_sem] H_spec_l5Rd_num
theorem ok_H_spec_l5Rd_num : H_spec_l5Rd_num.ok Try.prog := AllOk.okR (.cons m166 (.cons ok_spec_l5Rd_raw .nil)) .nil mix
theorem f_num5 (s : ByteArray) (p n lo hi : Int) (h : 0 ≤ p ∧ 0 ≤ n ∧ n ≤ 3 ∧ p + n ≤ (s.size : Int) ∧ s.size ≤ 1000000) (hl : lo ≤ (numN (s.extract p.toNat (p + n).toNat).data.toList : Int)) (hh : (numN (s.extract p.toNat (p + n).toNat).data.toList : Int) ≤ hi) : VFun Try.prog 68 [rdP, (eInt .i64).enc n, (eInt .i64).enc lo, (eInt .i64).enc hi] [some (rd5 s p)] ((eInt .i64).enc (numN (s.extract p.toNat (p + n).toNat).data.toList)) [some (rd5 s (p + n))] := by
  have hs : (s.extract p.toNat (p + n).toNat).size ≤ 3 := by rw [ByteArray.size_extract]; omega
  refine VFun_own (rin := [rd5 s p]) (n := 56) (rs := [.tmp 8]) Try.func68 rfl rfl rfl rfl H_spec_l5Rd_num ok_H_spec_l5Rd_num (Nat.le_of_ble_eq_true rfl) (by kernel_rfl) ?_
  simp only [go_sem, ↓reduceIte, reduceCtorEq, Nat.reduceAdd, Nat.reduceMul, Nat.reduceEqDiff, Nat.reduceSub, Nat.reduceLT, Nat.reduceLeDiff, Nat.reduceAnd, Nat.reduceShiftRight, Nat.reduceBEq, Nat.reduceBNe, Nat.reduceBneDiff, Nat.reduceBeqDiff, Int.reduceToNat, Int.reduceLE, Int.reduceLT, Int.reduceEq]
  refine ⟨⟨h.1, h.2.1, h.2.2.2⟩, ?_⟩
  obtain ⟨T, hT⟩ : ∃ T, s.extract p.toNat (p + n).toNat = T := ⟨_, rfl⟩
  rw [hT] at hs hl hh ⊢
  have hlen : T.data.toList.length = T.size := rfl
  refine LoopV.go (H := H_spec_l5Rd_num) ok_H_spec_l5Rd_num (by kernel_rfl) (fun i : Nat => ⟨[(0, rdP), (2, sc (.int .i64 lo)), (3, sc (.int .i64 hi)), (9, sc (.int .i64 p)), (10, sc (.string T)), (11, sc (.int .i64 (numN (T.data.toList.take i) : Int))), (12, sc (.int .i64 i))], [((0, 0), rd5 s (p + n))], 2⟩) (fun i => T.size - i) (fun i => i ≤ T.size) ?_ 0 (Nat.zero_le _)
  intro i hle
  by_cases hlt : i < T.size
  · have c1 : ((i : Int) < (T.size : Int)) = True := eq_true (by omega)
    have w1 : IntKind.i64.wrap ((i : Int) + 1) = ((i + 1 : Nat) : Int) := by rw [wrap64] <;> omega
    obtain ⟨x, hx⟩ : ∃ r, T.data.toList[i]? = some r := ⟨_, List.getElem?_eq_getElem hlt⟩
    have e : T.data.toList.take (i + 1) = T.data.toList.take i ++ [x] := by rw [List.take_add_one, hx]; rfl
    have hb := numN_lt T.data.toList i (by omega)
    have hb3 : (256 : Nat) ^ i ≤ 256 ^ 3 := Nat.pow_le_pow_right (by decide) (by omega)
    have hx8 := x.toNat_lt
    have hc := numN_app (T.data.toList.take i) x
    rw [← e] at hc
    generalize numN (T.data.toList.take i) = v at *
    have w2 : IntKind.i64.wrap (256 * (v : Int)) = 256 * (v : Int) := by rw [wrap64] <;> omega
    have w3 : IntKind.i64.wrap (256 * (v : Int) + (x.toNat : Int)) = ((256 * v + x.toNat : Nat) : Int) := by rw [wrap64] <;> omega
    have w0 : IntKind.i64.wrap (x.toNat : Int) = (x.toNat : Int) := by rw [wrap64] <;> omega
    simp only [go_sem, ↓reduceIte, reduceCtorEq, Nat.reduceAdd, Nat.reduceMul, Nat.reduceEqDiff, Nat.reduceSub, Nat.reduceLT, Nat.reduceLeDiff, Nat.reduceAnd, Nat.reduceShiftRight, Nat.reduceBEq, Nat.reduceBNe, Nat.reduceBneDiff, Nat.reduceBeqDiff, Int.reduceToNat, Int.reduceLE, Int.reduceLT, Int.reduceEq, c1, w1, hx, w2, w0, w3, eq_true hlt]
    exact ⟨i + 1, by omega, by omega, by rw [hc]⟩
  · have c1 : ((i : Int) < (T.size : Int)) = False := eq_false (by omega)
    obtain rfl : i = T.size := by omega
    have e : T.data.toList.take T.size = T.data.toList := List.take_of_length_le (Nat.le_of_eq hlen)
    have c2 : (lo ≤ (numN T.data.toList : Int) ∧ (numN T.data.toList : Int) ≤ hi) = True := eq_true ⟨hl, hh⟩
    simp only [go_sem, ↓reduceIte, reduceCtorEq, Nat.reduceAdd, Nat.reduceMul, Nat.reduceEqDiff, Nat.reduceSub, Nat.reduceLT, Nat.reduceLeDiff, Nat.reduceAnd, Nat.reduceShiftRight, Nat.reduceBEq, Nat.reduceBNe, Nat.reduceBneDiff, Nat.reduceBeqDiff, Int.reduceToNat, Int.reduceLE, Int.reduceLT, Int.reduceEq, c1, e, c2]
theorem ok_spec_l5Rd_num : FM.num5.ok Try.prog 68 := FM.num5_ok f_num5

abbrev Fault := Int × Int
abbrev cFault : Cd Fault := cPair (cInt .i64) (cInt .i64)
abbrev eRead : CE (Msg × Fault) := eT2 (CE.st cMsg) (CE.st cFault) (st_x _) (st_x _)
attribute [go_sem] cFault eRead

theorem nb_toNat {v : Nat} (h : v < 256) : (UInt8.ofNat v).toNat = v := UInt8.toNat_ofNat_of_lt' h
theorem tick_f {f c : Nat} (hf : f ≤ 256) (hc : c ≤ 8) : ∃ S : ByteArray, tickB (fMsg f c) = S ∧ S.size = 4 ∧ S.data.toList[0]? = some 7 ∧ numN (S.extract 0 1).data.toList = 7 ∧ numN (S.extract 1 3).data.toList = f ∧ numN (S.extract 3 4).data.toList = c := by
  have e : tickB (fMsg f c) = ⟨#[7, UInt8.ofNat (f / 256 % 256), UInt8.ofNat (f % 256), UInt8.ofNat (c % 256)]⟩ := rfl
  refine ⟨_, e, rfl, rfl, ?_, ?_, ?_⟩
  · rfl
  · show 256 * (256 * 0 + (UInt8.ofNat (f / 256 % 256)).toNat) + (UInt8.ofNat (f % 256)).toNat = f
    rw [nb_toNat (by omega), nb_toNat (by omega)]
    omega
  · show 256 * 0 + (UInt8.ofNat (c % 256)).toNat = c
    rw [nb_toNat (by omega)]
    omega

def H_spec_WireRead : Hint := { fs := [(67, MHas5), (68, FM.num5), (69, MIn5), (71, FM.raw5)], kp := [(0, [0]), (1, [0, 2, 3]), (2, [0, 2, 3, 4]), (3, [0, 2, 3, 4, 5]), (4, [2, 3, 5]), (5, [0, 2, 3, 4, 5]), (6, [0, 2, 3, 4, 5, 6]), (7, [2, 3, 5]), (8, [0, 2, 3, 4, 5, 6]), (9, [0, 2, 3, 4, 5, 6]), (10, [0, 2, 3, 4, 5, 6]), (11, [0, 2, 3, 4, 5, 6]), (12, [0, 2, 3, 4, 5, 6]), (13, [0, 2, 3, 4, 5, 6]), (14, [0, 2, 3, 4, 5, 6]), (15, [0, 2, 3, 4, 5, 6]), (16, [0, 2, 3, 4, 5, 6]), (17, [0, 2, 3, 4, 5, 6]), (18, [0, 2, 3, 4, 5, 6]), (19, [0, 2, 3, 4, 5, 6]), (20, [0, 2, 3, 4, 5, 6]), (21, [0, 2, 3, 4, 5, 6, 7]), (22, [0, 2, 3, 4, 5, 6, 7, 8]), (24, [0, 2, 3, 4, 5, 6, 7, 8]), (23, [0, 2, 3, 4, 5, 6, 7, 8]), (25, [0, 2, 3, 4, 5, 6]), (26, [0, 2, 3, 4, 5]), (27, [0, 2, 3, 4, 5, 9]), (28, [0, 2, 3, 4, 5, 9, 10]), (30, [0, 2, 3, 4, 5, 9, 10]), (29, [0, 2, 3, 4, 5, 9, 10]), (31, [0, 2, 3, 4, 5]), (32, [2, 3, 4, 5]), (33, [2, 3, 4, 5]), (34, [2, 3, 4]), (35, [2, 3, 5])], an := [(24, [0, 1, 0, 4, 12, 31, 63, 127]), (30, [0, 1, 0, 0, 8, 28, 60, 127, 255, 511]), (34, [0, 0, 2, 6, 14, 1, 63])] }
attribute [go_sem] H_spec_WireRead
theorem ok_H_spec_WireRead : H_spec_WireRead.ok Try.prog := AllOk.okR (.cons ok_spec_l5Has (.cons ok_spec_l5Rd_num (.cons ok_spec_l5In (.cons ok_spec_l5Rd_raw .nil)))) .nil mix
theorem f_WireRead (f c : Nat) (hf : f ≤ 256) (h1 : 1 ≤ c) (hc : c ≤ 8) : VFun Try.prog 24 [eStr.enc (tickB (fMsg f c))] [] (eRead.enc (fMsg f c, (0, 0))) [] := by
  obtain ⟨S, hS, hz, hx, k1, k2, k3⟩ := tick_f hf hc
  rw [hS]
  have n0 : (partsN 7).length ≤ 1000000 := by decide
  have n1 : (partsN 7).contains 115 = false := by decide
  have n2 : (partsN 7).contains 102 = true := by decide
  have n3 : (partsN 7).contains 110 = false := by decide
  have n4 : (partsN 7).contains 114 = false := by decide
  have n5 : (partsN 7).contains 99 = true := by decide
  have n6 : (partsN 7).contains 112 = false := by decide
  have n7 : (partsN 7).contains 108 = false := by decide
  have w7 : IntKind.i64.wrap ((UInt8.toNat 7 : Nat) : Int) = 7 := rfl
  have h4 : ((4 : Nat) : Int) = 4 := rfl
  have h7 : ((7 : Nat) : Int) = 7 := rfl
  have ne : ((⟨(partsN 7).toArray⟩ : ByteArray) = ⟨#[]⟩) = False := eq_false fun h => by
    have := congrArg ByteArray.size h
    revert this
    decide
  refine VFun_pure (n := 116) (rs := [.cell 2 68, .cell 3 70]) Try.func24 rfl rfl rfl rfl H_spec_WireRead ok_H_spec_WireRead _ _ (Nat.le_of_ble_eq_true rfl) (by kernel_rfl) ?_
  simp only [go_sem, ↓reduceIte, reduceCtorEq, Nat.reduceAdd, Nat.reduceMul, Nat.reduceEqDiff, Nat.reduceSub, Nat.reduceLT, Nat.reduceLeDiff, Nat.reduceAnd, Nat.reduceShiftRight, Nat.reduceBEq, Nat.reduceBNe, Nat.reduceBneDiff, Nat.reduceBeqDiff, Int.reduceToNat, Int.reduceLE, Int.reduceLT, Int.reduceEq, Int.reduceAdd, w7, h4, h7, ne, hz, hx, k1, k2, k3, eq_true n0, n1, n2, n3, n4, n5, n6, n7]
  omega
abbrev MReadF : FM := .f1 eStr eRead.enc (fun s => (fMsg (numN (s.extract 1 3).data.toList) (numN (s.extract 3 4).data.toList), (0, 0))) (fun s => ∃ f c : Nat, s = tickB (fMsg f c) ∧ f ≤ 256 ∧ 1 ≤ c ∧ c ≤ 8)
attribute [go_sem] MReadF
theorem ok_spec_WireRead : MReadF.ok Try.prog 24 := FM.f1_ok fun s h => by
  obtain ⟨f, c, rfl, hf, h1, hc⟩ := h
  have := f_WireRead f c hf h1 hc
  obtain ⟨S, hS, hz, hx, k1, k2, k3⟩ := tick_f hf hc
  rw [hS] at this ⊢
  rw [k2, k3]
  exact this

end Go.Proofs.YtlofjogebacndaaW.V

