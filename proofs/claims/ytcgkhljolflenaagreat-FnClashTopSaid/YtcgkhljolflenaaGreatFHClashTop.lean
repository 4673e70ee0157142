/- The law: whoever proves two unlike leaves at one place under a log that only grew has shown two texts of one digest. No condition but each theorem's own. -/
import Derived.Test.YtcgkhljolflenaaGreatFGX
namespace Go.Proofs.YtcgkhljolflenaaGreatW.V
open Go Go.Proofs
set_option linter.unusedSimpArgs false
set_option linter.unusedVariables false
set_option maxRecDepth 8000
set_option maxHeartbeats 4000000

set_option synthInstance.maxSize 1000

abbrev CC := Point × List Growth × Int × ByteArray × List Digest × ByteArray × List Digest
abbrev ccE (t : CC) : E := .t [ptE t.1, .o (.c (.s (t.2.1.map cGrowth.enc))), .o (.c (.v (.int .i64 t.2.2.1))), .o (.c (.v (.string t.2.2.2.1))), .o (.c (.s (t.2.2.2.2.1.map cDigest.enc))), .o (.c (.v (.string t.2.2.2.2.2.1))), .o (.c (.s (t.2.2.2.2.2.2.map cDigest.enc)))]
attribute [go_sem] ccE
abbrev ccP2 (t : CC) : Prop := stepsP t.2.1 1000 2000
abbrev stD (b : List UInt8) (l : List ByteArray) (m q : Int) : LS := ⟨[(2, .x (.o (.p (1, 100) 0 0 1))), (9, .x (.o (.p (1, 101) 0 0 1))), (10, .x (.o (.c (.s (l.map cStr.enc))))), (11, sc (.int .i64 m))], [((1, 100), bxPt (0, 0, 0, 0, 0)), ((1, 101), .bx [[.p (1, 102) 0 0 1]]), ((1, 102), .bx [[.p (1, 103) 0 0 1]]), ((1, 103), .bx [[.p (1, 104) 0 0 1]]), ((1, 104), rdR (b.take 2000) q)], 2⟩
abbrev stD8 (b : List UInt8) (l : List ByteArray) (m i : Int) (f : Point) (gs : List Growth) (e : Point) (q : Int) : LS := ⟨[(2, .x (.o (.p (1, 100) 0 0 1))), (9, .x (.o (.p (1, 101) 0 0 1))), (10, .x (.o (.c (.s (l.map cStr.enc))))), (11, sc (.int .i64 m)), (12, sc (.int .i64 i)), (13, .x (.o (.p (1, 105) 0 0 1))), (14, .x (.o (.h (1, 106) 0 gs.length gs.length))), (15, .x (.o (.p (1, 107) 0 0 1)))], [((1, 100), bxPt (0, 0, 0, 0, 0)), ((1, 101), .bx [[.p (1, 102) 0 0 1]]), ((1, 102), .bx [[.p (1, 103) 0 0 1]]), ((1, 103), .bx [[.p (1, 104) 0 0 1]]), ((1, 104), rdR (b.take 2000) q), ((1, 105), bxPt f), ((1, 106), .row 6 (gs.map cGrowth.enc)), ((1, 107), bxPt e)], 2⟩
abbrev stD12 (b : List UInt8) (l : List ByteArray) (m i : Int) (f : Point) (gs : List Growth) (e : Point) (y : ByteArray) (k q : Int) : LS := ⟨[(2, .x (.o (.p (1, 100) 0 0 1))), (9, .x (.o (.p (1, 101) 0 0 1))), (10, .x (.o (.c (.s (l.map cStr.enc))))), (11, sc (.int .i64 m)), (12, sc (.int .i64 i)), (13, .x (.o (.p (1, 105) 0 0 1))), (14, .x (.o (.h (1, 106) 0 gs.length gs.length))), (15, .x (.o (.p (1, 107) 0 0 1))), (17, sc (.string y)), (18, sc (.int .i64 k))], [((1, 100), bxPt (0, 0, 0, 0, 0)), ((1, 101), .bx [[.p (1, 102) 0 0 1]]), ((1, 102), .bx [[.p (1, 103) 0 0 1]]), ((1, 103), .bx [[.p (1, 104) 0 0 1]]), ((1, 104), rdR (b.take 2000) q), ((1, 105), bxPt f), ((1, 106), .row 6 (gs.map cGrowth.enc)), ((1, 107), bxPt e)], 2⟩
abbrev stD17 (b : List UInt8) (l : List ByteArray) (m i : Int) (f : Point) (gs : List Growth) (e : Point) (y : ByteArray) (q : Int) : LS := ⟨[(2, .x (.o (.p (1, 100) 0 0 1))), (9, .x (.o (.p (1, 101) 0 0 1))), (10, .x (.o (.c (.s (l.map cStr.enc))))), (11, sc (.int .i64 m)), (12, sc (.int .i64 i)), (13, .x (.o (.p (1, 105) 0 0 1))), (14, .x (.o (.h (1, 106) 0 gs.length gs.length))), (15, .x (.o (.p (1, 107) 0 0 1))), (17, sc (.string y))], [((1, 100), bxPt (0, 0, 0, 0, 0)), ((1, 101), .bx [[.p (1, 102) 0 0 1]]), ((1, 102), .bx [[.p (1, 103) 0 0 1]]), ((1, 103), .bx [[.p (1, 104) 0 0 1]]), ((1, 104), rdR (b.take 2000) q), ((1, 105), bxPt f), ((1, 106), .row 6 (gs.map cGrowth.enc)), ((1, 107), bxPt e)], 2⟩
attribute [go_sem] stD stD8 stD12 stD17
def H_spec_DrawClashOfChain : Hint := { fs := [(6, MChain), (14, Ml4Open)], kp := [(0, [0]), (1, [0, 2]), (2, [2, 9]), (3, [2, 9, 10, 11]), (4, [2, 9, 10]), (5, [2, 9, 10, 11]), (6, [2, 9, 10, 11, 12]), (7, [2, 9, 10, 11, 12, 13, 14]), (8, [2, 9, 10, 11, 12, 13, 14, 15]), (9, [2, 9, 10, 11, 12, 13, 14, 15, 17]), (10, [2, 9, 10, 11, 12, 13, 14, 15, 17, 18]), (11, [2, 9, 10, 11, 12, 13, 14, 15, 18]), (12, [2, 9, 10, 11, 12, 13, 14, 15, 17, 18]), (13, [2, 9, 10, 11, 12, 13, 14, 15, 17]), (14, [2, 9, 10, 11, 12, 13, 14, 15, 17, 18]), (15, [2, 10, 11, 12, 13]), (16, [2, 10, 11, 12, 13, 19]), (17, [2, 9, 10, 11, 12, 13, 14, 15, 17])], an := [(13, [0, 0, 0, 0, 0, 24, 56, 0, 0, 384, 0, 1920, 0, 4096, 12288, 28672, 61440, 126976, 258048, 520192, 1044480, 2093056, 0, 8388480, 0, 0, 33554432, 117440512, 0, 536870784, 1073741697, 2147483523, 4294967175, 8589934591, 17179869183, 34359738367, 68719476735]), (16, [0, 0, 2, 0, 0, 0, 48, 112, 0, 0, 768, 0, 3840, 0, 0, 24576, 57344, 122880, 0, 0, 794368, 1842945, 3940103, 8134415, 16523263, 33300479, 67108863, 134217727]), (17, [0, 0, 0, 0, 0, 24, 56, 0, 0, 384, 0, 1920, 0, 0, 8192, 24576, 57344, 0, 0, 262144, 917504, 0, 4067200, 8384384, 16772993, 33550211, 67104647, 134213631, 268431359, 536870911, 1073741823])], rs := [(15, RGrown), (16, RPick), (17, RChain), (18, RLeaf), (19, RPathV), (20, RPad), (21, RTwist), (22, RBent)], cut := [3, 5, 8, 10, 12, 14, 17] }
attribute [go_sem] H_spec_DrawClashOfChain
theorem ok_H_spec_DrawClashOfChain : H_spec_DrawClashOfChain.ok Tryz.prog := AllOk.okR (.cons ok_spec_ChainEnd (.cons ok_spec_l4Open .nil)) (.cons ok_spec_l3Rd_grown (.cons ok_spec_l1Rd_pick (.cons ok_spec_l4Rd_chain (.cons ok_spec_l2Rd_leaf (.cons ok_l3PathV (.cons ok_spec_l1Rd_pad (.cons ok_spec_l4Twisted (.cons ok_spec_l3Rd_bent .nil)))))))) mix
theorem f_DrawClashOfChain (b : List UInt8) (hb : b.length ≤ 1048576) : ∃ t : CC, ccP2 t ∧ VFun Tryz.prog 4 [(eList cU8).enc b] [] (ccE t) [] := by
  refine VFun_relE (n := 174) (rs := [.cell 2 27, .tmp 3, .tmp 4, .tmp 5, .tmp 6, .tmp 7, .tmp 8]) Tryz.func4 rfl rfl rfl rfl H_spec_DrawClashOfChain ok_H_spec_DrawClashOfChain  (rin := []) (T := CC) (fun t => ccE t) (fun t => []) ccP2 (Nat.le_of_ble_eq_true rfl) (by kernel_rfl) ?_
  simp only [go_sem, ↓reduceIte, reduceCtorEq, Nat.reduceAdd, Nat.reduceMul, Nat.reduceEqDiff, Nat.reduceSub, Nat.reduceLT, Nat.reduceLeDiff, Nat.reduceAnd, Nat.reduceShiftRight, Nat.reduceBEq, Nat.reduceBNe, Nat.reduceBneDiff, Nat.reduceBeqDiff, Int.reduceToNat, Int.reduceLE, Int.reduceLT, Int.reduceEq]
  refine ⟨by omega, ?_⟩
  refine CutS.intro (H := H_spec_DrawClashOfChain) ok_H_spec_DrawClashOfChain (by kernel_rfl) (by kernel_rfl) (fun y : List ByteArray × Int × Int => stD b y.1 y.2.1 y.2.2) (fun y => grownP (y.1, y.2.1) ∧ 0 ≤ y.2.2 ∧ y.2.2 ≤ 800) ?_ ?_
  · simp only [go_sem, ↓reduceIte, reduceCtorEq, Nat.reduceAdd, Nat.reduceMul, Nat.reduceEqDiff, Nat.reduceSub, Nat.reduceLT, Nat.reduceLeDiff, Nat.reduceAnd, Nat.reduceShiftRight, Nat.reduceBEq, Nat.reduceBNe, Nat.reduceBneDiff, Nat.reduceBeqDiff, Int.reduceToNat, Int.reduceLE, Int.reduceLT, Int.reduceEq]
    exact ⟨by omega, fun t q g => ⟨(t.1, t.2, q), ⟨g.2.2, by dsimp only; omega, by dsimp only; omega⟩, rfl⟩⟩
  rintro ⟨l, m, q⟩ ⟨⟨g1, g2, g3, g4, g5⟩, g6, g7⟩
  dsimp only at g1 g2 g3 g4 g5 g6 g7
  simp only [go_sem, ↓reduceIte, reduceCtorEq, Nat.reduceAdd, Nat.reduceMul, Nat.reduceEqDiff, Nat.reduceSub, Nat.reduceLT, Nat.reduceLeDiff, Nat.reduceAnd, Nat.reduceShiftRight, Nat.reduceBEq, Nat.reduceBNe, Nat.reduceBneDiff, Nat.reduceBeqDiff, Int.reduceToNat, Int.reduceLE, Int.reduceLT, Int.reduceEq]
  refine CutS.intro (H := H_spec_DrawClashOfChain) ok_H_spec_DrawClashOfChain (by kernel_rfl) (by kernel_rfl) (fun y : Int => stD b l y q) (fun y => 1 ≤ y ∧ y ≤ l.length) ?_ ?_
  · simp only [go_sem, ↓reduceIte, reduceCtorEq, Nat.reduceAdd, Nat.reduceMul, Nat.reduceEqDiff, Nat.reduceSub, Nat.reduceLT, Nat.reduceLeDiff, Nat.reduceAnd, Nat.reduceShiftRight, Nat.reduceBEq, Nat.reduceBNe, Nat.reduceBneDiff, Nat.reduceBeqDiff, Int.reduceToNat, Int.reduceLE, Int.reduceLT, Int.reduceEq]
    exact ite_intro (fun _ => ⟨1, by omega, rfl⟩) fun _ => ⟨m, by omega, rfl⟩
  intro m h1
  have hok := leavesOk_by (l := l) (by omega) g3
  simp only [go_sem, ↓reduceIte, reduceCtorEq, Nat.reduceAdd, Nat.reduceMul, Nat.reduceEqDiff, Nat.reduceSub, Nat.reduceLT, Nat.reduceLeDiff, Nat.reduceAnd, Nat.reduceShiftRight, Nat.reduceBEq, Nat.reduceBNe, Nat.reduceBneDiff, Nat.reduceBeqDiff, Int.reduceToNat, Int.reduceLE, Int.reduceLT, Int.reduceEq]
  refine ⟨⟨by omega, by omega⟩, fun i q1 h2 => ⟨⟨by omega, by omega, by omega, g3, by omega⟩, fun f gs q2 h3 => ?_⟩⟩
  obtain ⟨h4, h5, h6, a, h7, h8, h9⟩ := h3
  have hte : (treePt (l.take a)).1 = (a : Int) := by
    rw [treePt, if_pos (leavesOk_take hok a), List.length_take]
    dsimp only
    omega
  have hch : chainM f gs = (treePt (l.take a), true) := chainM_at (by omega) h9
  have hil : i.toNat < l.length := by omega
  have hx := List.getElem?_eq_getElem hil
  have hxs := g3 _ (List.mem_of_getElem? hx)
  obtain ⟨e, he⟩ : ∃ e, treePt (l.take a) = e := ⟨_, rfl⟩
  rw [he] at hte hch
  refine CutS.intro (H := H_spec_DrawClashOfChain) ok_H_spec_DrawClashOfChain (by kernel_rfl) (by kernel_rfl) (fun _ : Unit => stD8 b l m i f gs e q2) (fun _ => True) ?_ ?_
  · simp only [go_sem, ↓reduceIte, reduceCtorEq, Nat.reduceAdd, Nat.reduceMul, Nat.reduceEqDiff, Nat.reduceSub, Nat.reduceLT, Nat.reduceLeDiff, Nat.reduceAnd, Nat.reduceShiftRight, Nat.reduceBEq, Nat.reduceBNe, Nat.reduceBneDiff, Nat.reduceBeqDiff, Int.reduceToNat, Int.reduceLE, Int.reduceLT, Int.reduceEq, hch]
    exact ⟨⟨by omega, fun g hg => by have := h6.2 g hg; omega⟩, (), trivial⟩
  rintro _ _
  obtain ⟨x, hxx⟩ : ∃ x, l[i.toNat]'hil = x := ⟨_, rfl⟩
  rw [hxx] at hx hxs
  have hP : stepsP gs 1000 2000 := ⟨by have := h6.1; omega, fun g hg => by have := h6.2 g hg; omega⟩
  have hml : (l.take m.toNat).length = m.toNat := by rw [List.length_take]; omega
  have hal : (l.take a).length = a := by rw [List.length_take]; omega
  simp only [go_sem, ↓reduceIte, reduceCtorEq, Nat.reduceAdd, Nat.reduceMul, Nat.reduceEqDiff, Nat.reduceSub, Nat.reduceLT, Nat.reduceLeDiff, Nat.reduceAnd, Nat.reduceShiftRight, Nat.reduceBEq, Nat.reduceBNe, Nat.reduceBneDiff, Nat.reduceBeqDiff, Int.reduceToNat, Int.reduceLE, Int.reduceLT, Int.reduceEq, hx, eq_true hil]
  refine ⟨by omega, ?_⟩
  refine CutS.intro (H := H_spec_DrawClashOfChain) ok_H_spec_DrawClashOfChain (by kernel_rfl) (by kernel_rfl) (fun y : Int × Int => stD12 b l m i f gs e x y.1 y.2) (fun y => (0 ≤ y.1 ∧ y.1 < 6) ∧ 0 ≤ y.2 ∧ y.2 ≤ 820) ?_ ?_
  · simp only [go_sem, ↓reduceIte, reduceCtorEq, Nat.reduceAdd, Nat.reduceMul, Nat.reduceEqDiff, Nat.reduceSub, Nat.reduceLT, Nat.reduceLeDiff, Nat.reduceAnd, Nat.reduceShiftRight, Nat.reduceBEq, Nat.reduceBNe, Nat.reduceBneDiff, Nat.reduceBeqDiff, Int.reduceToNat, Int.reduceLE, Int.reduceLT, Int.reduceEq]
    exact ⟨⟨by omega, by omega⟩, fun v q3 h3 => ⟨(v, q3), ⟨by dsimp only; omega, by dsimp only; omega⟩, rfl⟩⟩
  rintro ⟨k, q3⟩ ⟨i1, i2⟩
  dsimp only at i1 i2
  simp only [go_sem, ↓reduceIte, reduceCtorEq, Nat.reduceAdd, Nat.reduceMul, Nat.reduceEqDiff, Nat.reduceSub, Nat.reduceLT, Nat.reduceLeDiff, Nat.reduceAnd, Nat.reduceShiftRight, Nat.reduceBEq, Nat.reduceBNe, Nat.reduceBneDiff, Nat.reduceBeqDiff, Int.reduceToNat, Int.reduceLE, Int.reduceLT, Int.reduceEq]
  refine CutS.intro (H := H_spec_DrawClashOfChain) ok_H_spec_DrawClashOfChain (by kernel_rfl) (by kernel_rfl) (fun z : ByteArray × Int => stD12 b l m i f gs e z.1 k z.2) (fun z => z.1.size ≤ 40 ∧ 0 ≤ z.2 ∧ z.2 ≤ 840) ?_ ?_
  · simp only [go_sem, ↓reduceIte, reduceCtorEq, Nat.reduceAdd, Nat.reduceMul, Nat.reduceEqDiff, Nat.reduceSub, Nat.reduceLT, Nat.reduceLeDiff, Nat.reduceAnd, Nat.reduceShiftRight, Nat.reduceBEq, Nat.reduceBNe, Nat.reduceBneDiff, Nat.reduceBeqDiff, Int.reduceToNat, Int.reduceLE, Int.reduceLT, Int.reduceEq]
    exact ite_intro (fun _ => ⟨⟨by omega, by omega⟩, fun v q h => ⟨(v, q), ⟨h.2.2, by dsimp only; omega, by dsimp only; omega⟩, rfl⟩⟩) fun _ => ⟨(x, q3), ⟨hxs, by dsimp only; omega, by dsimp only; omega⟩, rfl⟩
  rintro ⟨y, q4⟩ ⟨i3, i4⟩
  dsimp only at i3 i4
  simp only [go_sem, ↓reduceIte, reduceCtorEq, Nat.reduceAdd, Nat.reduceMul, Nat.reduceEqDiff, Nat.reduceSub, Nat.reduceLT, Nat.reduceLeDiff, Nat.reduceAnd, Nat.reduceShiftRight, Nat.reduceBEq, Nat.reduceBNe, Nat.reduceBneDiff, Nat.reduceBeqDiff, Int.reduceToNat, Int.reduceLE, Int.reduceLT, Int.reduceEq]
  refine CutS.intro (H := H_spec_DrawClashOfChain) ok_H_spec_DrawClashOfChain (by kernel_rfl) (by kernel_rfl) (fun _ : Unit => stD12 b l m i f gs e y k q4) (fun _ => True) ?_ ?_
  · simp only [go_sem, ↓reduceIte, reduceCtorEq, Nat.reduceAdd, Nat.reduceMul, Nat.reduceEqDiff, Nat.reduceSub, Nat.reduceLT, Nat.reduceLeDiff, Nat.reduceAnd, Nat.reduceShiftRight, Nat.reduceBEq, Nat.reduceBNe, Nat.reduceBneDiff, Nat.reduceBeqDiff, Int.reduceToNat, Int.reduceLE, Int.reduceLT, Int.reduceEq, hx, eq_true hil, hte]
    refine ite_intro (fun _ => ite_intro (fun _ => ?_) fun _ => ⟨(), trivial⟩) fun _ => ⟨(), trivial⟩
    exact ⟨by omega, ⟨by omega, by omega⟩, ⟨⟨by omega, by omega⟩, fun x hx => g3 x (List.mem_of_mem_take hx), by omega, by omega⟩, fun xs hxs => ⟨⟨by omega, by omega, by omega⟩, fun v q h => ⟨h8, ⟨⟨by omega, by omega⟩, fun x hx => g3 x (List.mem_of_mem_take hx), by omega, by omega⟩, fun ys hys => ⟨(f, gs, i, x, xs, v, ys), hP, rfl⟩⟩⟩⟩
  rintro _ _
  simp only [go_sem, ↓reduceIte, reduceCtorEq, Nat.reduceAdd, Nat.reduceMul, Nat.reduceEqDiff, Nat.reduceSub, Nat.reduceLT, Nat.reduceLeDiff, Nat.reduceAnd, Nat.reduceShiftRight, Nat.reduceBEq, Nat.reduceBNe, Nat.reduceBneDiff, Nat.reduceBeqDiff, Int.reduceToNat, Int.reduceLE, Int.reduceLT, Int.reduceEq]
  refine CutS.intro (H := H_spec_DrawClashOfChain) ok_H_spec_DrawClashOfChain (by kernel_rfl) (by kernel_rfl) (fun _ : Unit => stD17 b l m i f gs e y q4) (fun _ => True) ?_ ?_
  · simp only [go_sem, ↓reduceIte, reduceCtorEq, Nat.reduceAdd, Nat.reduceMul, Nat.reduceEqDiff, Nat.reduceSub, Nat.reduceLT, Nat.reduceLeDiff, Nat.reduceAnd, Nat.reduceShiftRight, Nat.reduceBEq, Nat.reduceBNe, Nat.reduceBneDiff, Nat.reduceBeqDiff, Int.reduceToNat, Int.reduceLE, Int.reduceLT, Int.reduceEq, hx, eq_true hil, hte]
    refine ite_intro (fun _ => ite_intro (fun _ => ?_) fun _ => ⟨(), trivial⟩) fun _ => ⟨(), trivial⟩
    exact ⟨⟨⟨by omega, by omega⟩, g3, h1⟩, fun g hg => ⟨by omega, ⟨by omega, by omega⟩, ⟨⟨by omega, by omega⟩, fun x hx => g3 x (List.mem_of_mem_take hx), by omega, by omega⟩, fun xs hxs => ⟨by omega, by omega, ⟨⟨by omega, by omega⟩, g3, by omega, by omega⟩, fun ys hys => ⟨(f, [g], i, x, xs, x ++ ⟨#[33]⟩, ys), ⟨by simp, fun z hz => by rw [List.mem_singleton.1 hz]; omega⟩, rfl⟩⟩⟩⟩
  rintro _ _
  simp only [go_sem, ↓reduceIte, reduceCtorEq, Nat.reduceAdd, Nat.reduceMul, Nat.reduceEqDiff, Nat.reduceSub, Nat.reduceLT, Nat.reduceLeDiff, Nat.reduceAnd, Nat.reduceShiftRight, Nat.reduceBEq, Nat.reduceBNe, Nat.reduceBneDiff, Nat.reduceBeqDiff, Int.reduceToNat, Int.reduceLE, Int.reduceLT, Int.reduceEq, hx, eq_true hil, hte]
  exact ⟨by omega, ⟨by omega, by omega⟩, ⟨⟨by omega, by omega⟩, fun x hx => g3 x (List.mem_of_mem_take hx), by omega, by omega⟩, fun xs hxs => ⟨h8, ⟨⟨by omega, by omega⟩, fun x hx => g3 x (List.mem_of_mem_take hx), by omega, by omega⟩, fun ys hys => ⟨⟨by omega, by omega, by omega⟩, fun zs q h => ⟨(f, gs, i, x, xs, y, zs), hP, rfl⟩⟩⟩⟩
abbrev RDrawCC : FR := .drE ccE ccP2
attribute [go_sem] RDrawCC
theorem ok_spec_DrawClashOfChain : RDrawCC.ok Tryz.prog 4 := FR.drE_ok fun b hb => f_DrawClashOfChain b hb

theorem ptEq (x y : Point) : (decide (x.1 = y.1) && (decide (x.2.1 = y.2.1) && (decide (x.2.2.1 = y.2.2.1) && (decide (x.2.2.2.1 = y.2.2.2.1) && decide (x.2.2.2.2 = y.2.2.2.2))))) = decide (x = y) := by
  obtain ⟨a, b, c, d, e⟩ := x
  obtain ⟨a', b', c', d', e'⟩ := y
  rw [Bool.eq_iff_iff]
  simp only [Bool.and_eq_true, decide_eq_true_eq, Prod.mk.injEq]
abbrev bxCl (c : Clash) : Root := .bx [[.c (.v (.string c.1)), .c (.v (.string c.2))]]
attribute [go_sem] bxCl
abbrev stT (f : Point) (i : Int) (x : ByteArray) (px : List Digest) (y : ByteArray) (py : List Digest) (c : Clash) (ok : Bool) (e : Point) (is : Bool) : LS := ⟨[(3, .x (.o (.p (1, 100) 0 0 1))), (5, sc (.int .i64 i)), (6, sc (.string x)), (7, .x (.o (.c (.s (px.map cDigest.enc))))), (8, sc (.string y)), (9, .x (.o (.c (.s (py.map cDigest.enc))))), (10, .x (.o (.p (1, 101) 0 0 1))), (11, sc (.bool ok)), (12, .x (.o (.p (1, 102) 0 0 1))), (13, sc (.bool is))], [((1, 100), bxPt f), ((1, 101), bxCl c), ((1, 102), bxPt e)], 2⟩
abbrev stU (c : Clash) (ok must : Bool) : LS := ⟨[(10, .x (.o (.p (1, 100) 0 0 1))), (11, sc (.bool ok)), (19, sc (.bool must))], [((1, 100), bxCl c)], 2⟩
attribute [go_sem] stT stU

def H_laws_FnClashTop : Hint := { fs := [(5, MClashC), (6, MChain), (7, MChain), (8, MRow), (9, MRow), (10, MSameT), (11, MPck), (12, MClashOk), (13, MClashOk)], kp := [(0, [0]), (1, [0]), (2, []), (3, [0]), (4, [3, 4, 5, 6, 7, 8, 9]), (5, [3, 4, 5, 6, 7, 8, 9, 10, 11]), (6, [3, 4, 5, 6, 7, 8, 9, 10, 11, 12, 13]), (7, [3, 5, 6, 7, 8, 9, 10, 11, 12, 13, 14, 15]), (8, [3, 5, 6, 7, 8, 9, 10, 11, 12, 13, 14, 15, 16, 17]), (9, [3, 5, 6, 7, 8, 9, 10, 11, 12, 13, 14, 15, 16, 17, 18, 19]), (10, []), (11, [3, 5, 6, 7, 8, 9, 10, 11, 12, 13]), (12, [10, 11, 19]), (13, []), (14, [10, 11]), (15, [10]), (16, [10])], an := [], rs := [(4, RDrawCC)], cut := [4, 11, 12] }
attribute [go_sem] H_laws_FnClashTop
theorem ok_H_laws_FnClashTop : H_laws_FnClashTop.ok Tryz.prog := AllOk.okR (.cons ok_impl_ClashOfChain (.cons ok_spec_ChainEnd (.cons ok_impl_ChainEnd (.cons ok_impl_ClashRow (.cons ok_spec_ClashRow (.cons ok_sameTextsC (.cons ok_spec_PathCheck (.cons ok_impl_ClashOk (.cons ok_spec_ClashOk .nil))))))))) (.cons ok_spec_DrawClashOfChain .nil) mix
theorem f_FnClashTop (code : List UInt8) (h : code.length ≤ maxLen ∧ ∀ x ∈ code, True) : VFun Tryz.prog 3 [(eList cU8).enc code] [] (eBool.enc true) [] := by
  obtain ⟨hc, -⟩ := h
  unfold maxLen at hc
  refine VFun_pure (n := 127) (rs := [.tmp 2]) Tryz.func3 rfl rfl rfl rfl H_laws_FnClashTop ok_H_laws_FnClashTop _ _ (Nat.le_of_ble_eq_true rfl) (by kernel_rfl) ?_
  by_cases hlen : (1048576 : Int) < code.length
  · simp only [go_sem, ↓reduceIte, reduceCtorEq, Nat.reduceAdd, Nat.reduceMul, Nat.reduceEqDiff, Nat.reduceSub, Nat.reduceLT, Nat.reduceLeDiff, Nat.reduceAnd, Nat.reduceShiftRight, Nat.reduceBEq, Nat.reduceBNe, Nat.reduceBneDiff, Nat.reduceBeqDiff, Int.reduceToNat, Int.reduceLE, Int.reduceLT, Int.reduceEq, hlen]
  simp only [go_sem, ↓reduceIte, reduceCtorEq, Nat.reduceAdd, Nat.reduceMul, Nat.reduceEqDiff, Nat.reduceSub, Nat.reduceLT, Nat.reduceLeDiff, Nat.reduceAnd, Nat.reduceShiftRight, Nat.reduceBEq, Nat.reduceBNe, Nat.reduceBneDiff, Nat.reduceBeqDiff, Int.reduceToNat, Int.reduceLE, Int.reduceLT, Int.reduceEq, hlen]
  refine CutS.intro (H := H_laws_FnClashTop) ok_H_laws_FnClashTop (by kernel_rfl) (by kernel_rfl) (fun t : CC => ⟨[(3, .x (.o (.p (1, 100) 0 0 1))), (4, .x (.o (.c (.s (t.2.1.map cGrowth.enc))))), (5, sc (.int .i64 t.2.2.1)), (6, sc (.string t.2.2.2.1)), (7, .x (.o (.c (.s (t.2.2.2.2.1.map cDigest.enc))))), (8, sc (.string t.2.2.2.2.2.1)), (9, .x (.o (.c (.s (t.2.2.2.2.2.2.map cDigest.enc)))))], [((1, 100), bxPt t.1)], 2⟩) ccP2 ?_ ?_
  · simp only [go_sem, ↓reduceIte, reduceCtorEq, Nat.reduceAdd, Nat.reduceMul, Nat.reduceEqDiff, Nat.reduceSub, Nat.reduceLT, Nat.reduceLeDiff, Nat.reduceAnd, Nat.reduceShiftRight, Nat.reduceBEq, Nat.reduceBNe, Nat.reduceBneDiff, Nat.reduceBeqDiff, Int.reduceToNat, Int.reduceLE, Int.reduceLT, Int.reduceEq]
    exact ⟨by omega, fun t ht => ⟨t, ht, rfl⟩⟩
  rintro ⟨f, gs, i, x, px, y, py⟩ ⟨k1, k2⟩
  dsimp only at k1 k2
  have kc : ccPre gs := ⟨by omega, fun g hg => by have := k2 g hg; omega⟩
  have kA : gs.length ≤ 1048576 ∧ ∀ g ∈ gs, g.2.length ≤ 1048576 := ⟨by omega, fun g hg => by have := k2 g hg; omega⟩
  obtain ⟨C, hC⟩ : ∃ C, chainM f gs = C := ⟨_, rfl⟩
  obtain ⟨e, is⟩ := C
  obtain ⟨R, hR⟩ : ∃ R, rowM f.1 i x px = R := ⟨_, rfl⟩
  have hRl := rowM_len f.1 i x px
  rw [hR] at hRl
  obtain ⟨K, hK⟩ : ∃ K, clashC f gs i x px y py = K := ⟨_, rfl⟩
  obtain ⟨c, ok⟩ := K
  have hb1 : (is == is) = true := beq_self_eq_true _
  have hb2 : (R.2 == R.2) = true := beq_self_eq_true _
  simp only [go_sem, ↓reduceIte, reduceCtorEq, Nat.reduceAdd, Nat.reduceMul, Nat.reduceEqDiff, Nat.reduceSub, Nat.reduceLT, Nat.reduceLeDiff, Nat.reduceAnd, Nat.reduceShiftRight, Nat.reduceBEq, Nat.reduceBNe, Nat.reduceBneDiff, Nat.reduceBeqDiff, Int.reduceToNat, Int.reduceLE, Int.reduceLT, Int.reduceEq, hC, hR, hK]
  refine ⟨kc, kA, kA, ?_⟩
  refine CutS.intro (H := H_laws_FnClashTop) ok_H_laws_FnClashTop (by kernel_rfl) (by kernel_rfl) (fun _ : Unit => stT f i x px y py c ok e is) (fun _ => True) ?_ ?_
  · simp only [go_sem, ↓reduceIte, reduceCtorEq, Nat.reduceAdd, Nat.reduceMul, Nat.reduceEqDiff, Nat.reduceSub, Nat.reduceLT, Nat.reduceLeDiff, Nat.reduceAnd, Nat.reduceShiftRight, Nat.reduceBEq, Nat.reduceBNe, Nat.reduceBneDiff, Nat.reduceBeqDiff, Int.reduceToNat, Int.reduceLE, Int.reduceLT, Int.reduceEq, hb1, hb2, ptEq, decide_true]
    exact ⟨by omega, (), trivial⟩
  rintro _ _
  obtain ⟨mu, hmu'⟩ : ∃ mu, mustC f gs i x px y py = mu := ⟨_, rfl⟩
  have hmu : mu = (is && (decide (¬ x = y) && (pckM f i x px && pckM e i y py))) := by rw [← hmu', mustC, hC]
  simp only [go_sem, ↓reduceIte, reduceCtorEq, Nat.reduceAdd, Nat.reduceMul, Nat.reduceEqDiff, Nat.reduceSub, Nat.reduceLT, Nat.reduceLeDiff, Nat.reduceAnd, Nat.reduceShiftRight, Nat.reduceBEq, Nat.reduceBNe, Nat.reduceBneDiff, Nat.reduceBeqDiff, Int.reduceToNat, Int.reduceLE, Int.reduceLT, Int.reduceEq]
  refine CutS.intro (H := H_laws_FnClashTop) ok_H_laws_FnClashTop (by kernel_rfl) (by kernel_rfl) (fun _ : Unit => stU c ok mu) (fun _ => True) ?_ ?_
  · cases is
    · rw [hmu]
      simp only [go_sem, ↓reduceIte, reduceCtorEq, Nat.reduceAdd, Nat.reduceMul, Nat.reduceEqDiff, Nat.reduceSub, Nat.reduceLT, Nat.reduceLeDiff, Nat.reduceAnd, Nat.reduceShiftRight, Nat.reduceBEq, Nat.reduceBNe, Nat.reduceBneDiff, Nat.reduceBeqDiff, Int.reduceToNat, Int.reduceLE, Int.reduceLT, Int.reduceEq]
      exact ⟨(), trivial⟩
    by_cases hxy : x = y
    · rw [hmu, decide_eq_false (not_not_intro hxy)]
      simp only [go_sem, ↓reduceIte, reduceCtorEq, Nat.reduceAdd, Nat.reduceMul, Nat.reduceEqDiff, Nat.reduceSub, Nat.reduceLT, Nat.reduceLeDiff, Nat.reduceAnd, Nat.reduceShiftRight, Nat.reduceBEq, Nat.reduceBNe, Nat.reduceBneDiff, Nat.reduceBeqDiff, Int.reduceToNat, Int.reduceLE, Int.reduceLT, Int.reduceEq, eq_true hxy]
      exact ⟨(), trivial⟩
    rw [decide_eq_true hxy] at hmu
    cases hp : pckM f i x px with
    | false =>
      rw [hmu, hp]
      simp only [go_sem, ↓reduceIte, reduceCtorEq, Nat.reduceAdd, Nat.reduceMul, Nat.reduceEqDiff, Nat.reduceSub, Nat.reduceLT, Nat.reduceLeDiff, Nat.reduceAnd, Nat.reduceShiftRight, Nat.reduceBEq, Nat.reduceBNe, Nat.reduceBneDiff, Nat.reduceBeqDiff, Int.reduceToNat, Int.reduceLE, Int.reduceLT, Int.reduceEq, hxy, hp]
      exact ⟨(), trivial⟩
    | true =>
      cases hq : pckM e i y py with
      | false =>
        rw [hmu, hp, hq]
        simp only [go_sem, ↓reduceIte, reduceCtorEq, Nat.reduceAdd, Nat.reduceMul, Nat.reduceEqDiff, Nat.reduceSub, Nat.reduceLT, Nat.reduceLeDiff, Nat.reduceAnd, Nat.reduceShiftRight, Nat.reduceBEq, Nat.reduceBNe, Nat.reduceBneDiff, Nat.reduceBeqDiff, Int.reduceToNat, Int.reduceLE, Int.reduceLT, Int.reduceEq, hxy, hp, hq]
        exact ⟨(), trivial⟩
      | true =>
        rw [hmu, hp, hq]
        simp only [go_sem, ↓reduceIte, reduceCtorEq, Nat.reduceAdd, Nat.reduceMul, Nat.reduceEqDiff, Nat.reduceSub, Nat.reduceLT, Nat.reduceLeDiff, Nat.reduceAnd, Nat.reduceShiftRight, Nat.reduceBEq, Nat.reduceBNe, Nat.reduceBneDiff, Nat.reduceBeqDiff, Int.reduceToNat, Int.reduceLE, Int.reduceLT, Int.reduceEq, hxy, hp, hq]
        exact ⟨(), trivial⟩
  rintro _ _
  cases mu with
  | false =>
    have hcl : clashC f gs i x px y py = ((⟨#[]⟩, ⟨#[]⟩), false) := by rw [clashC, if_neg (by rw [hmu']; decide)]
    rw [hcl] at hK
    cases hK
    have hff : (false == false) = true := rfl
    simp only [go_sem, ↓reduceIte, reduceCtorEq, Nat.reduceAdd, Nat.reduceMul, Nat.reduceEqDiff, Nat.reduceSub, Nat.reduceLT, Nat.reduceLeDiff, Nat.reduceAnd, Nat.reduceShiftRight, Nat.reduceBEq, Nat.reduceBNe, Nat.reduceBneDiff, Nat.reduceBeqDiff, Int.reduceToNat, Int.reduceLE, Int.reduceLT, Int.reduceEq, hff]
  | true =>
    have hmu2 := hmu.symm
    simp only [Bool.and_eq_true, decide_eq_true_eq] at hmu2
    obtain ⟨h1, h2, h3, h4⟩ := hmu2
    have htt : (true == true) = true := rfl
    subst h1
    have h8 : ¬ 256 < gs.length := fun h8 => by rw [chainM_big h8] at hC; cases hC
    have hF : chainF f gs = some e := by
      cases hq : chainF f gs with
      | some q => rw [chainM_at h8 hq] at hC; cases hC; rfl
      | none => rw [chainM_no h8 hq] at hC; cases hC
    obtain ⟨c2, e1, ⟨s1, s2⟩, e2⟩ := loop_clash h2 h4 gs f px hF h3
    have hcl : clashC f gs i x px y py = (c2, true) := by rw [clashC, if_pos hmu', hC]; exact e1
    rw [hcl] at hK
    cases hK
    simp only [go_sem, ↓reduceIte, reduceCtorEq, Nat.reduceAdd, Nat.reduceMul, Nat.reduceEqDiff, Nat.reduceSub, Nat.reduceLT, Nat.reduceLeDiff, Nat.reduceAnd, Nat.reduceShiftRight, Nat.reduceBEq, Nat.reduceBNe, Nat.reduceBneDiff, Nat.reduceBeqDiff, Int.reduceToNat, Int.reduceLE, Int.reduceLT, Int.reduceEq, e2, htt]
    exact ⟨⟨by omega, by omega⟩, by omega, by omega⟩

end Go.Proofs.YtcgkhljolflenaaGreatW.V


