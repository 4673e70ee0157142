/- Functions: chains of growths that are drawn. No condition but each theorem's own. -/
import Derived.Test.YtcgkhljolflenaaFGQ
import Derived.Test.YtcgkhljolflenaaFQD
namespace Go.Proofs.YtcgkhljolflenaaW.V
open Go Go.Proofs
set_option linter.unusedSimpArgs false
set_option linter.unusedVariables false
set_option maxRecDepth 8000
set_option maxHeartbeats 4000000

set_option synthInstance.maxSize 1000

theorem growM_le (l : List ByteArray) (m : Int) : (growM l m).1.length ≤ l.length := by
  unfold growM
  split
  · unfold growN
    split
    · exact Nat.zero_le _
    · rename_i h1 h
      rw [List.length_map, List.length_append]
      rcases Nat.eq_zero_or_pos l.length with h0 | h0
      · have : growOk l m = true := h1
        unfold growOk at this
        simp only [Bool.and_eq_true, decide_eq_true_eq] at this
        omega
      · have := (fall_in 0 l.length m.toNat h0).2.2
        omega
  · exact Nat.zero_le _
abbrev MProof : FM := .f2 (eList cStr) (eInt .i64) (eList cDigest).enc (fun l m => (growM l m).1) (fun l _ => l.length ≤ 1048576)
attribute [go_sem] MProof
def H_spec_l3Proof : Hint := { fs := [(101, OGrow)], kp := [(0, [0, 1]), (1, [0, 1]), (2, [5])], an := [] }
attribute [go_sem] H_spec_l3Proof
theorem ok_H_spec_l3Proof : H_spec_l3Proof.ok Try.prog := AllOk.okR (.cons ok_spec_GrowthOf .nil) .nil mix
theorem f_l3Proof (l : List ByteArray) (m : Int) (h : l.length ≤ 1048576) : VFun Try.prog 60 [(eList cStr).enc l, (eInt .i64).enc m] [] ((eList cDigest).enc (growM l m).1) [] := by
  refine VFun_pure (n := 14) (rs := [.tmp 4]) Try.func60 rfl rfl rfl rfl H_spec_l3Proof ok_H_spec_l3Proof _ _ (Nat.le_of_ble_eq_true rfl) (by kernel_rfl) ?_
  simp only [go_sem, ↓reduceIte, reduceCtorEq, Nat.reduceAdd, Nat.reduceMul, Nat.reduceEqDiff, Nat.reduceSub, Nat.reduceLT, Nat.reduceLeDiff, Nat.reduceAnd, Nat.reduceShiftRight, Nat.reduceBEq, Nat.reduceBNe, Nat.reduceBneDiff, Nat.reduceBeqDiff, Int.reduceToNat, Int.reduceLE, Int.reduceLT, Int.reduceEq]
  exact h
theorem ok_spec_l3Proof : MProof.ok Try.prog 60 := FM.f2_ok fun l m h => f_l3Proof l m h

abbrev ptE (p : Point) : A := .a [.c (.v (.int .i64 p.1)), .c (.v (.int .u64 p.2.1.toNat)), .c (.v (.int .u64 p.2.2.1.toNat)), .c (.v (.int .u64 p.2.2.2.1.toNat)), .c (.v (.int .u64 p.2.2.2.2.toNat))]
attribute [go_sem] ptE
abbrev stepsP (gs : List Growth) (n k : Nat) : Prop := gs.length ≤ n ∧ ∀ g ∈ gs, g.2.length ≤ k
abbrev RChain : FR where
  md := []
  m args rin := match args, rin with
    | [.x (.o (.p (0, 0) 0 0 1)), e2, .x (.o (.c (.v (.int .i64 m))))], [.bx [[.p (0, 1) 0 0 1]], .bx [[.p (0, 2) 0 0 1]], .bx [[.p (0, 3) 0 0 1]], .bx [[.c (.s rows), .c (.v (.int .i64 p))]]] => match mapO cU8.dec rows, (eList cStr).dec e2 with
      | some b, some l => some (rows = b.map cU8.enc ∧ 0 ≤ p ∧ p + 10 ≤ rdM ∧ (1 ≤ l.length ∧ l.length ≤ 256) ∧ 0 ≤ m ∧ m ≤ l.length, fun k => ∀ (f : Point) (gs : List Growth) q, p ≤ q ∧ q ≤ p + 10 ∧ stepsP gs 5 256 → k (.t [ptE f, .o (.h (0, 4) 0 gs.length gs.length)]) [some (bxP 1), some (bxP 2), some (bxP 3), some (rdR b q), some (oR cGrowth gs)])
      | _, _ => none
    | _, _ => none
attribute [go_sem] RChain
theorem RChain_ok {P : Program} {g : FuncId} (h : ∀ (b : List UInt8) (p : Int) (l : List ByteArray) (m : Int), 0 ≤ p → p + 10 ≤ rdM → (1 ≤ l.length ∧ l.length ≤ 256) → 0 ≤ m ∧ m ≤ l.length → ∃ t : (Point × List Growth) × Int, (p ≤ t.2 ∧ t.2 ≤ p + 10 ∧ stepsP t.1.2 5 256) ∧ VFun P g [rdP, (eList cStr).enc l, (eInt .i64).enc m] [some (bxP 1), some (bxP 2), some (bxP 3), some (rdR b p)] (.t [ptE t.1.1, .o (.h (0, 4) 0 t.1.2.length t.1.2.length)]) [some (bxP 1), some (bxP 2), some (bxP 3), some (rdR b t.2), some (oR cGrowth t.1.2)]) : RChain.ok P g := by
  intro args rin pr W hm hp k hk
  simp only [RChain] at hm
  split at hm
  · split at hm
    · rename_i e2 m rows p _ _ b l h1 h2
      cases hm
      obtain ⟨e, h3, h4, h5, h6⟩ := hp
      subst e
      obtain ⟨t, h7, h8⟩ := h b p l m h3 h4 h5 h6
      exact ⟨_, _, h8.weaken (.cons (fun _ _ _ _ _ h => h) (.cons ((eList cStr).ok _ _ h2) (.cons (fun _ _ _ _ _ h => h) .nil))), hk _ _ _ h7⟩
    · cases hm
  · cases hm

def H_spec_l4Rd_chain : Hint := { fs := [(55, MTreePoint), (60, MProof)], kp := [(0, [0, 1, 2]), (1, [0, 1, 2, 6]), (2, [0, 1, 2, 6, 8]), (3, [0, 1, 2, 6, 8, 9]), (4, [0, 1, 2, 6, 8, 9, 10]), (6, [0, 1, 2, 6, 8, 9, 10]), (7, [0, 1, 2, 6, 8, 9, 10, 11]), (8, [0, 1, 2, 6, 8, 10, 11]), (5, [0, 1, 2, 6, 8, 9, 10]), (9, [1, 2, 6, 8])], an := [(7, [0, 0, 0, 6, 14, 0, 0, 96, 0, 510, 1022, 2046, 4095, 8191])], rs := [(32, RPick)], own := true }
attribute [go_sem] H_spec_l4Rd_chain
theorem ok_H_spec_l4Rd_chain : H_spec_l4Rd_chain.ok Try.prog := AllOk.okR (.cons ok_spec_TreePoint (.cons ok_spec_l3Proof .nil)) (.cons ok_spec_l1Rd_pick .nil) mix
theorem f_chain (b : List UInt8) (p : Int) (l : List ByteArray) (m : Int) (h0 : 0 ≤ p) (h1 : p + 10 ≤ rdM) (hl : 1 ≤ l.length ∧ l.length ≤ 256) (hm : 0 ≤ m ∧ m ≤ l.length) : ∃ t : (Point × List Growth) × Int, (p ≤ t.2 ∧ t.2 ≤ p + 10 ∧ stepsP t.1.2 5 256) ∧ VFun Try.prog 56 [rdP, (eList cStr).enc l, (eInt .i64).enc m] [some (bxP 1), some (bxP 2), some (bxP 3), some (rdR b p)] (.t [ptE t.1.1, .o (.h (0, 4) 0 t.1.2.length t.1.2.length)]) [some (bxP 1), some (bxP 2), some (bxP 3), some (rdR b t.2), some (oR cGrowth t.1.2)] := by
  unfold rdM at h1
  refine VFun_relE (n := 66) (rs := [.cell 6 48, .tmp 7]) Try.func56 rfl rfl rfl rfl H_spec_l4Rd_chain ok_H_spec_l4Rd_chain  (rin := [bxP 1, bxP 2, bxP 3, rdR b p]) (T := (Point × List Growth) × Int) (fun t => .t [ptE t.1.1, .o (.h (0, 4) 0 t.1.2.length t.1.2.length)]) (fun t => [some (bxP 1), some (bxP 2), some (bxP 3), some (rdR b t.2), some (oR cGrowth t.1.2)]) (fun t => p ≤ t.2 ∧ t.2 ≤ p + 10 ∧ stepsP t.1.2 5 256) (Nat.le_of_ble_eq_true rfl) (by kernel_rfl) ?_
  simp only [go_sem, ↓reduceIte, reduceCtorEq, Nat.reduceAdd, Nat.reduceMul, Nat.reduceEqDiff, Nat.reduceSub, Nat.reduceLT, Nat.reduceLeDiff, Nat.reduceAnd, Nat.reduceShiftRight, Nat.reduceBEq, Nat.reduceBNe, Nat.reduceBneDiff, Nat.reduceBeqDiff, Int.reduceToNat, Int.reduceLE, Int.reduceLT, Int.reduceEq]
  refine ⟨by omega, ?_⟩; rintro k p0 g0
  refine LoopV.go (H := H_spec_l4Rd_chain) ok_H_spec_l4Rd_chain (by kernel_rfl) (fun y : List Growth × Int × Int × Int => ⟨[(0, rdP), (1, .x (.o (.c (.s (l.map cStr.enc))))), (2, sc (.int .i64 m)), (6, .x (.o (.p (1, 100) 0 0 1))), (8, .x (.o (.h (1, 101) 0 y.1.length y.1.length))), (9, sc (.int .i64 y.2.1)), (10, sc (.int .i64 y.2.2.1))], [((0, 0), bxP 1), ((0, 1), bxP 2), ((0, 2), bxP 3), ((0, 3), rdR b y.2.2.2), ((1, 100), bxPt (0, 0, 0, 0, 0)), ((1, 101), .row 6 (y.1.map cGrowth.enc))], 2⟩) (fun y => y.2.2.1.toNat) (fun y => ((y.1.length : Int) + y.2.2.1 ≤ 5 ∧ 0 ≤ y.2.2.1) ∧ (0 ≤ y.2.1 ∧ y.2.1 ≤ l.length) ∧ (p ≤ y.2.2.2 ∧ y.2.2.2 ≤ p + 1 + y.1.length) ∧ ∀ g ∈ y.1, g.2.length ≤ 256) ?_ ([], m, k, p0) ⟨by simp; omega, by dsimp only; omega, by simp; omega, by simp⟩
  rintro ⟨gs, a, k, q⟩ ⟨j1, j2, j3, j4⟩
  dsimp only at j1 j2 j3 j4
  by_cases hk : 0 < k
  case neg =>
    simp only [go_sem, ↓reduceIte, reduceCtorEq, Nat.reduceAdd, Nat.reduceMul, Nat.reduceEqDiff, Nat.reduceSub, Nat.reduceLT, Nat.reduceLeDiff, Nat.reduceAnd, Nat.reduceShiftRight, Nat.reduceBEq, Nat.reduceBNe, Nat.reduceBneDiff, Nat.reduceBeqDiff, Int.reduceToNat, Int.reduceLE, Int.reduceLT, Int.reduceEq, hk]
    exact ⟨⟨by omega, by omega⟩, by rw [List.length_take]; omega, ((_, gs), q), ⟨by dsimp only; omega, by dsimp only; omega, by dsimp only; omega, j4⟩, rfl, rfl⟩
  have w1 : IntKind.i64.wrap ((l.length : Int) - a) = (l.length : Int) - a := by rw [wrap64] <;> omega
  have w2 : IntKind.i64.wrap ((l.length : Int) - a + 1) = (l.length : Int) - a + 1 := by rw [wrap64] <;> omega
  have w3 : IntKind.i64.wrap (k - 1) = k - 1 := by rw [wrap64] <;> omega
  simp only [go_sem, ↓reduceIte, reduceCtorEq, Nat.reduceAdd, Nat.reduceMul, Nat.reduceEqDiff, Nat.reduceSub, Nat.reduceLT, Nat.reduceLeDiff, Nat.reduceAnd, Nat.reduceShiftRight, Nat.reduceBEq, Nat.reduceBNe, Nat.reduceBneDiff, Nat.reduceBeqDiff, Int.reduceToNat, Int.reduceLE, Int.reduceLT, Int.reduceEq, hk, w1, w2, w3]
  refine ⟨⟨by omega, by omega⟩, fun v q2 g2 => ?_⟩
  have w4 : IntKind.i64.wrap (a + v) = a + v := by rw [wrap64] <;> omega
  simp only [w4]
  refine ⟨⟨by omega, by omega⟩, by rw [List.length_take]; omega, ⟨by omega, by omega⟩, by rw [List.length_take]; omega, by omega, (gs ++ [(treePt (l.take (a + v).toNat), (growM (l.take (a + v).toNat) a).1)], a + v, k - 1, q2), ⟨by simp; omega, by dsimp only; omega, by simp; omega, fun g hg => ?_⟩, by dsimp only; omega, by rw [List.length_append, List.map_append]; rfl⟩
  rcases List.mem_append.1 hg with hg | hg
  · exact j4 g hg
  · rw [List.mem_singleton.1 hg]
    have := growM_le (l.take (a + v).toNat) a
    rw [List.length_take] at this
    dsimp only
    omega
theorem ok_spec_l4Rd_chain : RChain.ok Try.prog 56 := RChain_ok fun b p l m h0 h1 h2 h3 => f_chain b p l m h0 h1 h2 h3

/-- A growth without a proof, as it is made. -/
abbrev nilG (p : Point) : List C := [.v (.int .i64 p.1), .v (.int .u64 p.2.1.toNat), .v (.int .u64 p.2.2.1.toNat), .v (.int .u64 p.2.2.2.1.toNat), .v (.int .u64 p.2.2.2.2.toNat), .v (.slice none 0 0)]
theorem mapO_nilG (p : Point) (n : Nat) : mapO cGrowth.dec (List.replicate n (nilG p)) = some (List.replicate n (p, [])) := by
  induction n with
  | zero => rfl
  | succ n ih =>
    have h : cGrowth.dec (nilG p) = some (p, []) := by
      simp only [go_sem, ↓reduceIte, reduceCtorEq, Nat.reduceAdd, Nat.reduceMul, Nat.reduceEqDiff, Nat.reduceSub, Nat.reduceLT, Nat.reduceLeDiff, Nat.reduceAnd, Nat.reduceShiftRight, Nat.reduceBEq, Nat.reduceBNe, Nat.reduceBneDiff, Nat.reduceBeqDiff, Int.reduceToNat, Int.reduceLE, Int.reduceLT, Int.reduceEq]
    rw [List.replicate_succ, List.replicate_succ, mapO, h, ih]
abbrev eChain : CE (Point × List Growth) := eT2 (CE.st cPoint) (eList cGrowth) (st_x _) (one_x _ _)
attribute [go_sem] eChain
abbrev chainP (t : Point × List Growth) : Prop := stepsP t.2 1000 1000
def H_spec_DrawChainEnd : Hint := { fs := [(30, Ml4Open), (55, MTreePoint)], kp := [(0, [0]), (1, [0, 2]), (2, [2, 4]), (3, [2, 4, 5, 6]), (4, [2, 4, 5]), (5, [2, 4, 7]), (6, [2, 4, 7, 8]), (7, [2, 7, 8, 9]), (9, [2, 7, 8, 9]), (8, [2, 7, 8, 9]), (10, [2, 7, 8]), (11, [2, 4, 5, 6]), (12, [2, 4, 10, 11]), (13, [2, 4, 10, 11]), (14, [2, 4, 10, 11, 12]), (15, [2, 4, 10, 11]), (16, [2, 4, 10, 11]), (17, [2, 10, 11])], an := [(14, [0, 0, 0, 4, 12, 28, 0, 0, 192, 448, 960, 2044, 4095, 8191, 16383])], rs := [(31, RGrown), (32, RPick), (33, RBent), (56, RChain), (57, RDigest)], cut := [3, 11, 12, 15, 17] }
attribute [go_sem] H_spec_DrawChainEnd
theorem ok_H_spec_DrawChainEnd : H_spec_DrawChainEnd.ok Try.prog := AllOk.okR (.cons ok_spec_l4Open (.cons ok_spec_TreePoint .nil)) (.cons ok_spec_l3Rd_grown (.cons ok_spec_l1Rd_pick (.cons ok_spec_l3Rd_bent (.cons ok_spec_l4Rd_chain (.cons ok_spec_l1Rd_digest .nil))))) mix
theorem f_DrawChainEnd (b : List UInt8) (hb : b.length ≤ 1048576) : ∃ t : Point × List Growth, chainP t ∧ VFun Try.prog 20 [(eList cU8).enc b] [] (eChain.enc t) [] := by
  refine VFun_rel (n := 138) (rs := [.cell 2 48, .tmp 3]) Try.func20 rfl rfl rfl rfl H_spec_DrawChainEnd ok_H_spec_DrawChainEnd  (rin := []) (T := Point × List Growth) eChain (fun t => t) (fun t => []) chainP (Nat.le_of_ble_eq_true rfl) (by kernel_rfl) ?_
  simp only [go_sem, ↓reduceIte, reduceCtorEq, Nat.reduceAdd, Nat.reduceMul, Nat.reduceEqDiff, Nat.reduceSub, Nat.reduceLT, Nat.reduceLeDiff, Nat.reduceAnd, Nat.reduceShiftRight, Nat.reduceBEq, Nat.reduceBNe, Nat.reduceBneDiff, Nat.reduceBeqDiff, Int.reduceToNat, Int.reduceLE, Int.reduceLT, Int.reduceEq]
  refine ⟨by omega, ?_⟩
  refine CutS.intro (H := H_spec_DrawChainEnd) ok_H_spec_DrawChainEnd (by kernel_rfl) (by kernel_rfl) (fun y : List ByteArray × Int × Int => ⟨[(2, .x (.o (.p (1, 100) 0 0 1))), (4, .x (.o (.p (1, 101) 0 0 1))), (5, .x (.o (.c (.s (y.1.map cStr.enc))))), (6, sc (.int .i64 y.2.1))], [((1, 100), bxPt (0, 0, 0, 0, 0)), ((1, 101), .bx [[.p (1, 102) 0 0 1]]), ((1, 102), .bx [[.p (1, 103) 0 0 1]]), ((1, 103), .bx [[.p (1, 104) 0 0 1]]), ((1, 104), rdR (b.take 2000) y.2.2)], 2⟩) (fun y => grownP (y.1, y.2.1) ∧ 0 ≤ y.2.2 ∧ y.2.2 ≤ 800) ?_ ?_
  · simp only [go_sem, ↓reduceIte, reduceCtorEq, Nat.reduceAdd, Nat.reduceMul, Nat.reduceEqDiff, Nat.reduceSub, Nat.reduceLT, Nat.reduceLeDiff, Nat.reduceAnd, Nat.reduceShiftRight, Nat.reduceBEq, Nat.reduceBNe, Nat.reduceBneDiff, Nat.reduceBeqDiff, Int.reduceToNat, Int.reduceLE, Int.reduceLT, Int.reduceEq]
    exact ⟨by omega, fun t q g => ⟨(t.1, t.2, q), ⟨g.2.2, by dsimp only; omega, by dsimp only; omega⟩, rfl⟩⟩
  rintro ⟨l, m, q⟩ ⟨⟨g1, g2, g3, g4, g5⟩, g6, g7⟩
  dsimp only at g1 g2 g3 g4 g5 g6 g7
  simp only [go_sem, ↓reduceIte, reduceCtorEq, Nat.reduceAdd, Nat.reduceMul, Nat.reduceEqDiff, Nat.reduceSub, Nat.reduceLT, Nat.reduceLeDiff, Nat.reduceAnd, Nat.reduceShiftRight, Nat.reduceBEq, Nat.reduceBNe, Nat.reduceBneDiff, Nat.reduceBeqDiff, Int.reduceToNat, Int.reduceLE, Int.reduceLT, Int.reduceEq]
  refine CutS.intro (H := H_spec_DrawChainEnd) ok_H_spec_DrawChainEnd (by kernel_rfl) (by kernel_rfl) (fun y : Int => ⟨[(2, .x (.o (.p (1, 100) 0 0 1))), (4, .x (.o (.p (1, 101) 0 0 1))), (5, .x (.o (.c (.s (l.map cStr.enc))))), (6, sc (.int .i64 m))], [((1, 100), bxPt (0, 0, 0, 0, 0)), ((1, 101), .bx [[.p (1, 102) 0 0 1]]), ((1, 102), .bx [[.p (1, 103) 0 0 1]]), ((1, 103), .bx [[.p (1, 104) 0 0 1]]), ((1, 104), rdR (b.take 2000) y)], 2⟩) (fun y => 0 ≤ y ∧ y ≤ 802) ?_ ?_
  · simp only [go_sem, ↓reduceIte, reduceCtorEq, Nat.reduceAdd, Nat.reduceMul, Nat.reduceEqDiff, Nat.reduceSub, Nat.reduceLT, Nat.reduceLeDiff, Nat.reduceAnd, Nat.reduceShiftRight, Nat.reduceBEq, Nat.reduceBNe, Nat.reduceBneDiff, Nat.reduceBeqDiff, Int.reduceToNat, Int.reduceLE, Int.reduceLT, Int.reduceEq]
    refine ⟨⟨by omega, by omega⟩, fun v q2 h2 => ite_intro (fun _ => ⟨by omega, ⟨by omega, by omega⟩, fun w q3 h3 => ?_⟩) fun _ => ⟨q2, by omega, rfl⟩⟩
    have w0 : IntKind.i64.wrap (256 + w) = 256 + w := by rw [wrap64] <;> omega
    simp only [w0]
    refine LoopV.go (H := H_spec_DrawChainEnd) ok_H_spec_DrawChainEnd (by kernel_rfl) (fun y : Nat × Int => ⟨[(2, .x (.o (.p (1, 100) 0 0 1))), (7, .x (.o (.p (1, 101) 0 0 1))), (8, .x (.o (.h (1, 102) 0 y.1 y.1))), (9, sc (.int .i64 y.2))], [((1, 100), bxPt (0, 0, 0, 0, 0)), ((1, 101), bxPt (treePt l)), ((1, 102), .row 6 (List.replicate y.1 (nilG (treePt l))))], 2⟩) (fun y => y.2.toNat) (fun y => (y.1 : Int) + y.2 ≤ 260 ∧ 0 ≤ y.2) ?_ (0, 256 + w) (by dsimp only; omega)
    rintro ⟨n, k⟩ i1
    dsimp only at i1
    by_cases hk : 0 < k
    · have w3 : IntKind.i64.wrap (k - 1) = k - 1 := by rw [wrap64] <;> omega
      simp only [go_sem, ↓reduceIte, reduceCtorEq, Nat.reduceAdd, Nat.reduceMul, Nat.reduceEqDiff, Nat.reduceSub, Nat.reduceLT, Nat.reduceLeDiff, Nat.reduceAnd, Nat.reduceShiftRight, Nat.reduceBEq, Nat.reduceBNe, Nat.reduceBneDiff, Nat.reduceBeqDiff, Int.reduceToNat, Int.reduceLE, Int.reduceLT, Int.reduceEq, hk, w3, List.length_replicate]
      exact ⟨by omega, (n + 1, k - 1), by dsimp only; omega, by dsimp only; omega, by rw [List.replicate_succ']⟩
    · simp only [go_sem, ↓reduceIte, reduceCtorEq, Nat.reduceAdd, Nat.reduceMul, Nat.reduceEqDiff, Nat.reduceSub, Nat.reduceLT, Nat.reduceLeDiff, Nat.reduceAnd, Nat.reduceShiftRight, Nat.reduceBEq, Nat.reduceBNe, Nat.reduceBneDiff, Nat.reduceBeqDiff, Int.reduceToNat, Int.reduceLE, Int.reduceLT, Int.reduceEq, hk, List.length_replicate, mapO_nilG]
      exact ⟨(_, List.replicate n (treePt l, [])), ⟨by rw [List.length_replicate]; omega, fun g hg => by rw [(List.mem_replicate.1 hg).2]; simp⟩, rfl⟩
  intro q2 h2
  simp only [go_sem, ↓reduceIte, reduceCtorEq, Nat.reduceAdd, Nat.reduceMul, Nat.reduceEqDiff, Nat.reduceSub, Nat.reduceLT, Nat.reduceLeDiff, Nat.reduceAnd, Nat.reduceShiftRight, Nat.reduceBEq, Nat.reduceBNe, Nat.reduceBneDiff, Nat.reduceBeqDiff, Int.reduceToNat, Int.reduceLE, Int.reduceLT, Int.reduceEq]
  refine CutS.intro (H := H_spec_DrawChainEnd) ok_H_spec_DrawChainEnd (by kernel_rfl) (by kernel_rfl) (fun y : Point × List Growth × Int => ⟨[(2, .x (.o (.p (1, 100) 0 0 1))), (4, .x (.o (.p (1, 101) 0 0 1))), (10, .x (.o (.p (1, 105) 0 0 1))), (11, .x (.o (.h (1, 106) 0 y.2.1.length y.2.1.length)))], [((1, 100), bxPt (0, 0, 0, 0, 0)), ((1, 101), .bx [[.p (1, 102) 0 0 1]]), ((1, 102), .bx [[.p (1, 103) 0 0 1]]), ((1, 103), .bx [[.p (1, 104) 0 0 1]]), ((1, 104), rdR (b.take 2000) y.2.2), ((1, 105), bxPt y.1), ((1, 106), .row 6 (y.2.1.map cGrowth.enc))], 2⟩) (fun y => stepsP y.2.1 5 256 ∧ 0 ≤ y.2.2 ∧ y.2.2 ≤ 820) ?_ ?_
  · simp only [go_sem, ↓reduceIte, reduceCtorEq, Nat.reduceAdd, Nat.reduceMul, Nat.reduceEqDiff, Nat.reduceSub, Nat.reduceLT, Nat.reduceLeDiff, Nat.reduceAnd, Nat.reduceShiftRight, Nat.reduceBEq, Nat.reduceBNe, Nat.reduceBneDiff, Nat.reduceBeqDiff, Int.reduceToNat, Int.reduceLE, Int.reduceLT, Int.reduceEq]
    exact ⟨⟨by omega, by omega, by omega, by omega⟩, fun f gs q3 h3 => ⟨(f, gs, q3), ⟨h3.2.2, by dsimp only; omega, by dsimp only; omega⟩, rfl⟩⟩
  rintro ⟨f, gs, q3⟩ ⟨h3, h4, h5⟩
  dsimp only at h3 h4 h5
  simp only [go_sem, ↓reduceIte, reduceCtorEq, Nat.reduceAdd, Nat.reduceMul, Nat.reduceEqDiff, Nat.reduceSub, Nat.reduceLT, Nat.reduceLeDiff, Nat.reduceAnd, Nat.reduceShiftRight, Nat.reduceBEq, Nat.reduceBNe, Nat.reduceBneDiff, Nat.reduceBeqDiff, Int.reduceToNat, Int.reduceLE, Int.reduceLT, Int.reduceEq]
  refine CutS.intro (H := H_spec_DrawChainEnd) ok_H_spec_DrawChainEnd (by kernel_rfl) (by kernel_rfl) (fun y : List Growth × Int => ⟨[(2, .x (.o (.p (1, 100) 0 0 1))), (4, .x (.o (.p (1, 101) 0 0 1))), (10, .x (.o (.p (1, 105) 0 0 1))), (11, .x (.o (.h (1, 106) 0 y.1.length y.1.length)))], [((1, 100), bxPt (0, 0, 0, 0, 0)), ((1, 101), .bx [[.p (1, 102) 0 0 1]]), ((1, 102), .bx [[.p (1, 103) 0 0 1]]), ((1, 103), .bx [[.p (1, 104) 0 0 1]]), ((1, 104), rdR (b.take 2000) y.2), ((1, 105), bxPt f), ((1, 106), .row 6 (y.1.map cGrowth.enc))], 2⟩) (fun y => stepsP y.1 5 300 ∧ 0 ≤ y.2 ∧ y.2 ≤ 900) ?_ ?_
  · simp only [go_sem, ↓reduceIte, reduceCtorEq, Nat.reduceAdd, Nat.reduceMul, Nat.reduceEqDiff, Nat.reduceSub, Nat.reduceLT, Nat.reduceLeDiff, Nat.reduceAnd, Nat.reduceShiftRight, Nat.reduceBEq, Nat.reduceBNe, Nat.reduceBneDiff, Nat.reduceBeqDiff, Int.reduceToNat, Int.reduceLE, Int.reduceLT, Int.reduceEq]
    refine ⟨⟨by omega, by omega⟩, fun v q5 h6 => ite_intro (fun _ => ite_intro (fun hl => ⟨⟨by omega, by omega⟩, fun k q6 h7 => ?_⟩) fun _ => ⟨(gs, q5), ⟨⟨h3.1, fun g hg => by have := h3.2 g hg; omega⟩, by dsimp only; omega, by dsimp only; omega⟩, rfl⟩) fun _ => ⟨(gs, q5), ⟨⟨h3.1, fun g hg => by have := h3.2 g hg; omega⟩, by dsimp only; omega, by dsimp only; omega⟩, rfl⟩⟩
    have hk : k.toNat < gs.length := by omega
    have hx := List.getElem?_eq_getElem hk
    have hm := h3.2 _ (List.mem_of_getElem? hx)
    simp only [go_sem, ↓reduceIte, reduceCtorEq, Nat.reduceAdd, Nat.reduceMul, Nat.reduceEqDiff, Nat.reduceSub, Nat.reduceLT, Nat.reduceLeDiff, Nat.reduceAnd, Nat.reduceShiftRight, Nat.reduceBEq, Nat.reduceBNe, Nat.reduceBneDiff, Nat.reduceBeqDiff, Int.reduceToNat, Int.reduceLE, Int.reduceLT, Int.reduceEq, hx, eq_true hk]
    refine ⟨by omega, ⟨by omega, by omega, by omega⟩, fun d q7 h8 => ⟨by omega, (gs.set k.toNat ((gs[k.toNat]'hk).1, d), q7), ⟨⟨by rw [List.length_set]; exact h3.1, fun g hg => ?_⟩, by dsimp only; omega, by dsimp only; omega⟩, by rw [List.length_set, List.map_set]; rfl⟩⟩
    rcases List.mem_or_eq_of_mem_set hg with hg | rfl
    · have := h3.2 g hg; omega
    · dsimp only; omega
  rintro ⟨gs, q4⟩ ⟨h3, h4, h5⟩
  dsimp only at h3 h4 h5
  simp only [go_sem, ↓reduceIte, reduceCtorEq, Nat.reduceAdd, Nat.reduceMul, Nat.reduceEqDiff, Nat.reduceSub, Nat.reduceLT, Nat.reduceLeDiff, Nat.reduceAnd, Nat.reduceShiftRight, Nat.reduceBEq, Nat.reduceBNe, Nat.reduceBneDiff, Nat.reduceBeqDiff, Int.reduceToNat, Int.reduceLE, Int.reduceLT, Int.reduceEq]
  refine CutS.intro (H := H_spec_DrawChainEnd) ok_H_spec_DrawChainEnd (by kernel_rfl) (by kernel_rfl) (fun y : Point => ⟨[(2, .x (.o (.p (1, 100) 0 0 1))), (10, .x (.o (.p (1, 101) 0 0 1))), (11, .x (.o (.h (1, 102) 0 gs.length gs.length)))], [((1, 100), bxPt (0, 0, 0, 0, 0)), ((1, 101), bxPt y), ((1, 102), .row 6 (gs.map cGrowth.enc))], 2⟩) (fun _ => True) ?_ ?_
  · simp only [go_sem, ↓reduceIte, reduceCtorEq, Nat.reduceAdd, Nat.reduceMul, Nat.reduceEqDiff, Nat.reduceSub, Nat.reduceLT, Nat.reduceLeDiff, Nat.reduceAnd, Nat.reduceShiftRight, Nat.reduceBEq, Nat.reduceBNe, Nat.reduceBneDiff, Nat.reduceBeqDiff, Int.reduceToNat, Int.reduceLE, Int.reduceLT, Int.reduceEq]
    refine ⟨⟨by omega, by omega⟩, fun v q5 h6 => ite_intro (fun _ => ⟨⟨by omega, by omega⟩, fun d q6 h7 => ⟨(f.1, d), rfl⟩⟩) fun _ => ⟨f, rfl⟩⟩
  intro f2 _
  simp only [go_sem, ↓reduceIte, reduceCtorEq, Nat.reduceAdd, Nat.reduceMul, Nat.reduceEqDiff, Nat.reduceSub, Nat.reduceLT, Nat.reduceLeDiff, Nat.reduceAnd, Nat.reduceShiftRight, Nat.reduceBEq, Nat.reduceBNe, Nat.reduceBneDiff, Nat.reduceBeqDiff, Int.reduceToNat, Int.reduceLE, Int.reduceLT, Int.reduceEq]
  exact ⟨(f2, gs), ⟨by dsimp only; omega, fun g hg => by have := h3.2 g hg; omega⟩, rfl⟩
abbrev RDrawCh : FR := .dr eChain chainP
attribute [go_sem] RDrawCh
theorem ok_spec_DrawChainEnd : RDrawCh.ok Try.prog 20 := FR.dr_ok fun b hb => f_DrawChainEnd b hb

end Go.Proofs.YtcgkhljolflenaaW.V

