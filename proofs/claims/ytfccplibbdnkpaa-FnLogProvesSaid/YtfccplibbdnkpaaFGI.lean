/- Functions: messages that are drawn and spoilt, questions for a log. No condition but each theorem's own. -/
import Derived.Test.YtfccplibbdnkpaaFGF
import Derived.Test.YtfccplibbdnkpaaFQR
namespace Go.Proofs.YtfccplibbdnkpaaW.V
open Go Go.Proofs
set_option linter.unusedSimpArgs false
set_option linter.unusedVariables false
set_option maxRecDepth 8000
set_option maxHeartbeats 4000000

set_option synthInstance.maxSize 1000

def H_spec_l2Full : Hint := { fs := [], kp := [(0, [0]), (1, [0]), (2, [0, 3]), (3, [0, 3, 4]), (5, [0, 3, 4]), (4, [0, 3, 4]), (6, [3])], an := [] }
attribute [go_sem] H_spec_l2Full
theorem ok_H_spec_l2Full : H_spec_l2Full.ok Try.prog := AllOk.okR .nil .nil mix
theorem f_l2Full (n : Int) (h : 0 ≤ n ∧ n ≤ 1000) : VFun Try.prog 103 [(eInt .i64).enc n] [] ((eList cStr).enc (List.replicate n.toNat ⟨#[]⟩)) [] := by
  obtain ⟨n, rfl⟩ := Int.eq_ofNat_of_zero_le h.1
  refine VFun_pure (n := 15) (rs := [.tmp 2]) Try.func103 rfl rfl rfl rfl H_spec_l2Full ok_H_spec_l2Full _ _ (Nat.le_of_ble_eq_true rfl) (by kernel_rfl) ?_
  simp only [go_sem, ↓reduceIte, reduceCtorEq, Nat.reduceAdd, Nat.reduceMul, Nat.reduceEqDiff, Nat.reduceSub, Nat.reduceLT, Nat.reduceLeDiff, Nat.reduceAnd, Nat.reduceShiftRight, Nat.reduceBEq, Nat.reduceBNe, Nat.reduceBneDiff, Nat.reduceBeqDiff, Int.reduceToNat, Int.reduceLE, Int.reduceLT, Int.reduceEq]
  refine LoopV.go (H := H_spec_l2Full) ok_H_spec_l2Full (by kernel_rfl) (fun xs : List ByteArray => ⟨[(0, sc (.int .i64 n)), (3, .x (.o (.h (1, 100) 0 xs.length xs.length))), (4, sc (.int .i64 xs.length))], [((1, 100), .row 1 (xs.map cStr.enc))], 2⟩) (fun xs => n - xs.length) (fun xs => xs.length ≤ n ∧ xs = List.replicate xs.length ⟨#[]⟩) ?_ [] ⟨Nat.zero_le _, rfl⟩
  rintro xs ⟨hi, hxs⟩
  have w1 : IntKind.i64.wrap ((xs.length : Int) + 1) = ((xs.length + 1 : Nat) : Int) := by rw [wrap64] <;> omega
  by_cases hlt : (xs.length : Int) < (n : Int)
  · simp only [go_sem, ↓reduceIte, reduceCtorEq, Nat.reduceAdd, Nat.reduceMul, Nat.reduceEqDiff, Nat.reduceSub, Nat.reduceLT, Nat.reduceLeDiff, Nat.reduceAnd, Nat.reduceShiftRight, Nat.reduceBEq, Nat.reduceBNe, Nat.reduceBneDiff, Nat.reduceBeqDiff, Int.reduceToNat, Int.reduceLE, Int.reduceLT, Int.reduceEq, hlt, w1]
    refine ⟨by omega, xs ++ [⟨#[]⟩], ⟨by simp; omega, ?_⟩, by simp; omega, by rw [List.length_append, List.map_append]; rfl⟩
    rw [List.length_append, List.length_singleton, List.replicate_succ', ← hxs]
  · simp only [go_sem, ↓reduceIte, reduceCtorEq, Nat.reduceAdd, Nat.reduceMul, Nat.reduceEqDiff, Nat.reduceSub, Nat.reduceLT, Nat.reduceLeDiff, Nat.reduceAnd, Nat.reduceShiftRight, Nat.reduceBEq, Nat.reduceBNe, Nat.reduceBneDiff, Nat.reduceBeqDiff, Int.reduceToNat, Int.reduceLE, Int.reduceLT, Int.reduceEq, hlt]
    rw [show n = xs.length by omega, ← hxs]
abbrev MFull : FM := .f1 (eInt .i64) (eList cStr).enc (fun n => List.replicate n.toNat ⟨#[]⟩) (fun n => 0 ≤ n ∧ n ≤ 1000)
attribute [go_sem] MFull
theorem ok_spec_l2Full : MFull.ok Try.prog 103 := FM.f1_ok fun n h => f_l2Full n h

def H_spec_l5Size : Hint := { fs := [], kp := [(0, [0]), (1, [0]), (2, [0]), (3, [0])], an := [], rs := [(49, RPick)] }
attribute [go_sem] H_spec_l5Size
theorem ok_H_spec_l5Size : H_spec_l5Size.ok Try.prog := AllOk.okR .nil (.cons ok_spec_l1Rd_pick .nil) mix
theorem f_l5Size (b : List UInt8) (p : Int) (h0 : 0 ≤ p) (h1 : p + 2 ≤ rdM) : ∃ t : Int × Int, (p ≤ t.2 ∧ t.2 ≤ p + 2 ∧ True) ∧ VFun Try.prog 106 [rdP] [some (rdR b p)] ((eInt .i64).enc t.1) [some (rdR b t.2)] := by
  unfold rdM at h1
  refine VFun_rel (n := 11) (rs := [.tmp 2]) Try.func106 rfl rfl rfl rfl H_spec_l5Size ok_H_spec_l5Size  (rin := [rdR b p]) (T := Int × Int) (eInt .i64) (fun t => t.1) (fun t => [some (rdR b t.2)]) (fun t => p ≤ t.2 ∧ t.2 ≤ p + 2 ∧ True) (Nat.le_of_ble_eq_true rfl) (by kernel_rfl) ?_
  simp only [go_sem, ↓reduceIte, reduceCtorEq, Nat.reduceAdd, Nat.reduceMul, Nat.reduceEqDiff, Nat.reduceSub, Nat.reduceLT, Nat.reduceLeDiff, Nat.reduceAnd, Nat.reduceShiftRight, Nat.reduceBEq, Nat.reduceBNe, Nat.reduceBneDiff, Nat.reduceBeqDiff, Int.reduceToNat, Int.reduceLE, Int.reduceLT, Int.reduceEq]
  refine ⟨by omega, ?_⟩; rintro a0 p0 g0
  refine ite_intro (fun _ => ⟨by omega, fun v q g => ⟨(_, q), by dsimp only; omega, rfl, rfl⟩⟩) fun _ => ⟨by omega, fun v q g => ⟨(_, q), by dsimp only; omega, rfl, rfl⟩⟩
abbrev RSize5 : FR := .rd0 (eInt .i64).enc 2 (fun _ => True)
attribute [go_sem] RSize5
theorem ok_spec_l5Size : RSize5.ok Try.prog 106 := FR.rd0_ok fun b p h0 h1 => f_l5Size b p h0 h1

namespace G
abbrev OLeaves : FR where
  md := []
  m args rin := match args, rin with
    | [.x (.o (.p (0, 0) 0 0 1)), .x (.o (.c (.v (.int .i64 n))))], [.bx [[.p (0, 1) 0 0 1]], .bx [[.c (.s rows), .c (.v (.int .i64 p))]]] => match mapO cU8.dec rows with
      | some b => some (rows = b.map cU8.enc ∧ 0 ≤ p ∧ p + 10 * n ≤ rdM ∧ 0 ≤ n ∧ n ≤ 71, fun k => ∀ (xs : List ByteArray) q, p ≤ q ∧ q ≤ p + 10 * n ∧ (xs.length : Int) = n → k (oL 2 xs) [some (bxP 1), some (rdR b q), some (oR cStr xs)])
      | none => none
    | _, _ => none
attribute [go_sem] OLeaves
theorem OLeaves_ok {P : Program} {g : FuncId} (h : ∀ (b : List UInt8) (p n : Int), 0 ≤ p → p + 10 * n ≤ rdM → (0 ≤ n ∧ n ≤ 71) → ∃ t : List ByteArray × Int, (p ≤ t.2 ∧ t.2 ≤ p + 10 * n ∧ (t.1.length : Int) = n) ∧ VFun P g [rdP, (eInt .i64).enc n] [some (bxP 1), some (rdR b p)] (oL 2 t.1) [some (bxP 1), some (rdR b t.2), some (oR cStr t.1)]) : OLeaves.ok P g := by
  intro args rin pre W hm hp k hk
  simp only [OLeaves] at hm
  split at hm
  · split at hm
    · cases hm
      obtain ⟨e, h1, h2, h3⟩ := hp
      subst e
      obtain ⟨t, h4, h5⟩ := h _ _ _ h1 h2 h3
      exact ⟨_, _, h5, hk _ _ h4⟩
    · cases hm
  · cases hm

def H_spec_l2Rd_leaves : Hint := { fs := [], kp := [(0, [0, 1]), (1, [0, 1]), (2, [0, 1, 5]), (3, [0, 1, 5, 6]), (5, [0, 1, 5, 6]), (4, [0, 1, 5, 6]), (6, [5])], an := [], rs := [(116, RLeaf)], own := true }
attribute [go_sem] H_spec_l2Rd_leaves
theorem ok_H_spec_l2Rd_leaves : H_spec_l2Rd_leaves.ok Try.prog := AllOk.okR .nil (.cons ok_spec_l2Rd_leaf .nil) mix
theorem f_leaves (b : List UInt8) (p n : Int) (h0 : 0 ≤ p) (h1 : p + 10 * n ≤ rdM) (hn : 0 ≤ n ∧ n ≤ 71) : ∃ t : List ByteArray × Int, (p ≤ t.2 ∧ t.2 ≤ p + 10 * n ∧ (t.1.length : Int) = n) ∧ VFun Try.prog 104 [rdP, (eInt .i64).enc n] [some (bxP 1), some (rdR b p)] (oL 2 t.1) [some (bxP 1), some (rdR b t.2), some (oR cStr t.1)] := by
  unfold rdM at h1
  refine VFun_relE (n := 19) (rs := [.tmp 4]) Try.func104 rfl rfl rfl rfl H_spec_l2Rd_leaves ok_H_spec_l2Rd_leaves  (rin := [bxP 1, rdR b p]) (T := List ByteArray × Int) (fun t => oL 2 t.1) (fun t => [some (bxP 1), some (rdR b t.2), some (oR cStr t.1)]) (fun t => p ≤ t.2 ∧ t.2 ≤ p + 10 * n ∧ (t.1.length : Int) = n) (Nat.le_of_ble_eq_true rfl) (by kernel_rfl) ?_
  simp only [go_sem, ↓reduceIte, reduceCtorEq, Nat.reduceAdd, Nat.reduceMul, Nat.reduceEqDiff, Nat.reduceSub, Nat.reduceLT, Nat.reduceLeDiff, Nat.reduceAnd, Nat.reduceShiftRight, Nat.reduceBEq, Nat.reduceBNe, Nat.reduceBneDiff, Nat.reduceBeqDiff, Int.reduceToNat, Int.reduceLE, Int.reduceLT, Int.reduceEq]
  refine LoopV.go (H := H_spec_l2Rd_leaves) ok_H_spec_l2Rd_leaves (by kernel_rfl) (fun y : List ByteArray × Int => ⟨[(0, rdP), (1, sc (.int .i64 n)), (5, .x (.o (.h (1, 100) 0 y.1.length y.1.length))), (6, sc (.int .i64 y.1.length))], [((0, 0), bxP 1), ((0, 1), rdR b y.2), ((1, 100), .row 1 (y.1.map cStr.enc))], 2⟩) (fun y => n.toNat - y.1.length) (fun y => (y.1.length : Int) ≤ n ∧ p ≤ y.2 ∧ y.2 ≤ p + 10 * y.1.length) ?_ ([], p) ⟨by simp; omega, by dsimp only; omega, by simp⟩
  rintro ⟨xs, q⟩ ⟨j1, j2, j3⟩
  dsimp only at j1 j2 j3
  have w1 : IntKind.i64.wrap ((xs.length : Int) + 1) = ((xs.length + 1 : Nat) : Int) := by rw [wrap64] <;> omega
  by_cases hlt : (xs.length : Int) < n
  · simp only [go_sem, ↓reduceIte, reduceCtorEq, Nat.reduceAdd, Nat.reduceMul, Nat.reduceEqDiff, Nat.reduceSub, Nat.reduceLT, Nat.reduceLeDiff, Nat.reduceAnd, Nat.reduceShiftRight, Nat.reduceBEq, Nat.reduceBNe, Nat.reduceBneDiff, Nat.reduceBeqDiff, Int.reduceToNat, Int.reduceLE, Int.reduceLT, Int.reduceEq, hlt, w1]
    exact ⟨⟨by omega, by omega⟩, fun t q2 g2 => ⟨⟨by omega, by omega⟩, (xs ++ [t], q2), ⟨by simp; omega, by dsimp only; omega, by simp; omega⟩, by simp; omega, by simp [cStr]⟩⟩
  · simp only [go_sem, ↓reduceIte, reduceCtorEq, Nat.reduceAdd, Nat.reduceMul, Nat.reduceEqDiff, Nat.reduceSub, Nat.reduceLT, Nat.reduceLeDiff, Nat.reduceAnd, Nat.reduceShiftRight, Nat.reduceBEq, Nat.reduceBNe, Nat.reduceBneDiff, Nat.reduceBeqDiff, Int.reduceToNat, Int.reduceLE, Int.reduceLT, Int.reduceEq, hlt]
    exact ⟨(xs, q), ⟨by dsimp only; omega, by dsimp only; omega, by dsimp only; omega⟩, rfl, rfl⟩
theorem ok_leaves : OLeaves.ok Try.prog 104 := OLeaves_ok f_leaves
end G

def H_spec_l2Rd_some : Hint := { fs := [(103, MFull)], kp := [(0, [0]), (1, [0]), (2, [0, 3]), (3, [0]), (4, [0, 3]), (5, [3, 4]), (6, [4]), (7, [4])], an := [], rs := [(49, RPick), (85, RMany), (104, G.OLeaves), (105, RSize)] }
attribute [go_sem] H_spec_l2Rd_some
theorem ok_H_spec_l2Rd_some : H_spec_l2Rd_some.ok Try.prog := AllOk.okR (.cons ok_spec_l2Full .nil) (.cons ok_spec_l1Rd_pick (.cons ok_spec_l1Many (.cons G.ok_leaves (.cons ok_spec_l2Rd_size .nil)))) mix
theorem f_some (b : List UInt8) (p : Int) (h0 : 0 ≤ p) (h1 : p + 800 ≤ rdM) : ∃ t : List ByteArray × Int, (p ≤ t.2 ∧ t.2 ≤ p + 800 ∧ t.1.length ≤ 300) ∧ VFun Try.prog 82 [rdP] [some (bxP 1), some (rdR b p)] ((eList cStr).enc t.1) [some (bxP 1), some (rdR b t.2)] := by
  unfold rdM at h1
  refine VFun_rel (n := 30) (rs := [.tmp 2]) Try.func82 rfl rfl rfl rfl H_spec_l2Rd_some ok_H_spec_l2Rd_some  (rin := [bxP 1, rdR b p]) (T := List ByteArray × Int) (eList cStr) (fun t => t.1) (fun t => [some (bxP 1), some (rdR b t.2)]) (fun t => p ≤ t.2 ∧ t.2 ≤ p + 800 ∧ t.1.length ≤ 300) (Nat.le_of_ble_eq_true rfl) (by kernel_rfl) ?_
  simp only [go_sem, ↓reduceIte, reduceCtorEq, Nat.reduceAdd, Nat.reduceMul, Nat.reduceEqDiff, Nat.reduceSub, Nat.reduceLT, Nat.reduceLeDiff, Nat.reduceAnd, Nat.reduceShiftRight, Nat.reduceBEq, Nat.reduceBNe, Nat.reduceBneDiff, Nat.reduceBeqDiff, Int.reduceToNat, Int.reduceLE, Int.reduceLT, Int.reduceEq]
  refine ⟨by omega, ?_⟩; rintro k p0 g0
  refine ite_intro (fun _ => ⟨by omega, fun v q g => ?_⟩) fun _ => ⟨by omega, fun n q g => ⟨by omega, fun xs q2 g2 => ite_intro (fun _ t ht => ⟨by omega, (xs ++ [t], q2), ⟨by dsimp only; omega, by dsimp only; omega, by simp; omega⟩, rfl, rfl⟩) fun _ => ⟨(xs, q2), ⟨by dsimp only; omega, by dsimp only; omega, by dsimp only; omega⟩, rfl, rfl⟩⟩⟩
  have w1 : IntKind.i64.wrap (256 + v) = 256 + v := by rw [wrap64] <;> omega
  rw [w1]
  exact ⟨by omega, (_, q), ⟨by dsimp only; omega, by dsimp only; omega, by dsimp only; rw [List.length_replicate]; omega⟩, rfl, rfl⟩
abbrev RSome : FR := .rl0 (eList cStr).enc 800 (fun t => t.length ≤ 300)
attribute [go_sem] RSome
theorem ok_spec_l2Rd_some : RSome.ok Try.prog 82 := FR.rl0_ok fun b p h0 h1 => f_some b p h0 h1

def H_spec_l8Log : Hint := { fs := [], kp := [(0, [0]), (1, [0, 2])], an := [], rs := [(82, RSome)] }
attribute [go_sem] H_spec_l8Log
theorem ok_H_spec_l8Log : H_spec_l8Log.ok Try.prog := AllOk.okR .nil (.cons ok_spec_l2Rd_some .nil) mix
theorem f_l8Log (b : List UInt8) (p : Int) (h0 : 0 ≤ p) (h1 : p + 800 ≤ rdM) : ∃ t : Log × Int, (p ≤ t.2 ∧ t.2 ≤ p + 800 ∧ t.1.length ≤ 300) ∧ VFun Try.prog 47 [rdP] [some (bxP 1), some (rdR b p)] ((CE.st cLog).enc t.1) [some (bxP 1), some (rdR b t.2)] := by
  unfold rdM at h1
  refine VFun_rel (n := 6) (rs := [.cell 2 39]) Try.func47 rfl rfl rfl rfl H_spec_l8Log ok_H_spec_l8Log  (rin := [bxP 1, rdR b p]) (T := Log × Int) (CE.st cLog) (fun t => t.1) (fun t => [some (bxP 1), some (rdR b t.2)]) (fun t => p ≤ t.2 ∧ t.2 ≤ p + 800 ∧ t.1.length ≤ 300) (Nat.le_of_ble_eq_true rfl) (by kernel_rfl) ?_
  simp only [go_sem, ↓reduceIte, reduceCtorEq, Nat.reduceAdd, Nat.reduceMul, Nat.reduceEqDiff, Nat.reduceSub, Nat.reduceLT, Nat.reduceLeDiff, Nat.reduceAnd, Nat.reduceShiftRight, Nat.reduceBEq, Nat.reduceBNe, Nat.reduceBneDiff, Nat.reduceBeqDiff, Int.reduceToNat, Int.reduceLE, Int.reduceLT, Int.reduceEq]
  exact ⟨⟨by omega, by omega⟩, fun v q g => ⟨(v, q), g, rfl, rfl⟩⟩
abbrev RLog : FR := .rl0 (CE.st cLog).enc 800 (fun t => t.length ≤ 300)
attribute [go_sem] RLog
theorem ok_spec_l8Log : RLog.ok Try.prog 47 := FR.rl0_ok fun b p h0 h1 => f_l8Log b p h0 h1

/-- A message whose lists are one's own, behind a reader. -/
abbrev oMsgJ (j k : Nat) (m : Msg) : E := .x (.a [.c (.v (.int .i64 m.1)), .c (.v (.int .i64 m.2.1)), .c (.v (.int .i64 m.2.2.1)), .c (.v (.int .i64 m.2.2.2.1)),
  .c (.v (.int .u64 m.2.2.2.2.1.1.toNat)), .c (.v (.int .u64 m.2.2.2.2.1.2.1.toNat)), .c (.v (.int .u64 m.2.2.2.2.1.2.2.1.toNat)), .c (.v (.int .u64 m.2.2.2.2.1.2.2.2.toNat)),
  .c (.v (.int .i64 m.2.2.2.2.2.1)), .h (0, j) 0 m.2.2.2.2.2.2.1.length m.2.2.2.2.2.2.1.length, .h (0, k) 0 m.2.2.2.2.2.2.2.length m.2.2.2.2.2.2.2.length])
abbrev bxMs (m : Msg) (a b : Nm) : List D := [.c (.v (.int .i64 m.1)), .c (.v (.int .i64 m.2.1)), .c (.v (.int .i64 m.2.2.1)), .c (.v (.int .i64 m.2.2.2.1)),
  .c (.v (.int .u64 m.2.2.2.2.1.1.toNat)), .c (.v (.int .u64 m.2.2.2.2.1.2.1.toNat)), .c (.v (.int .u64 m.2.2.2.2.1.2.2.1.toNat)), .c (.v (.int .u64 m.2.2.2.2.1.2.2.2.toNat)),
  .c (.v (.int .i64 m.2.2.2.2.2.1)), .h a 0 m.2.2.2.2.2.2.1.length m.2.2.2.2.2.2.1.length, .h b 0 m.2.2.2.2.2.2.2.length m.2.2.2.2.2.2.2.length]
abbrev rdM2 (b : List UInt8) (q : Int) (m : Msg) : List (Option Root) := [some (rdR b q), some (oR cDigest m.2.2.2.2.2.2.1), some (oR cStr m.2.2.2.2.2.2.2)]
attribute [go_sem] oMsgJ bxMs rdM2
abbrev msgSm (m : Msg) : Prop := m.2.2.2.2.2.2.1.length ≤ 1000 ∧ m.2.2.2.2.2.2.2.length ≤ 1000

abbrev zBxMs : List D := [.c (.v (.int .i64 0)), .c (.v (.int .i64 0)), .c (.v (.int .i64 0)), .c (.v (.int .i64 0)), .c (.v (.int .u64 0)), .c (.v (.int .u64 0)), .c (.v (.int .u64 0)), .c (.v (.int .u64 0)), .c (.v (.int .i64 0)), .c (.v (.slice none 0 0)), .c (.v (.slice none 0 0))]
attribute [go_sem] zBxMs

def H_spec_l5Message : Hint := { fs := [(60, MHas5), (61, MIn5)], kp := [(0, [0]), (1, [0, 2]), (2, [0, 2, 3]), (3, [0, 2, 3, 4]), (4, [0, 2, 3, 4]), (5, [0, 2, 3, 4]), (6, [0, 2, 3, 4]), (7, [0, 2, 3, 4]), (8, [0, 2, 3, 4]), (9, [0, 2, 3, 4]), (10, [0, 2, 3, 4]), (11, [0, 2, 3, 4]), (12, [0, 2, 3, 4]), (13, [0, 2, 3, 4]), (14, [0, 2, 3, 4]), (15, [0, 2, 3, 4]), (16, [0, 2, 3, 4]), (17, [0, 2, 3, 4, 5]), (19, [0, 2, 3, 4, 5]), (18, [0, 2, 3, 4, 5]), (20, [0, 2, 3, 4]), (21, [0, 2, 3, 4]), (22, [0, 2, 3, 4]), (23, [0, 2, 3, 4]), (24, [0, 2, 3]), (25, [0, 2, 3, 6]), (27, [0, 2, 3, 6]), (26, [0, 2, 3, 6]), (28, [0, 2, 3]), (29, [2, 3]), (30, [2, 3])], an := [(19, [0, 1, 0, 4, 12, 31, 63, 127]), (27, [0, 1, 0, 4, 12, 31, 63, 127]), (29, [0, 1, 0, 7, 15])], rs := [(49, RPick), (84, RDigest), (85, RMany), (106, RSize5), (107, RText)], own := true, nb := [(3, [(3, 9, 4), (3, 10, 1)])], cut := [7, 9, 11, 13, 15, 23, 30] }
attribute [go_sem] H_spec_l5Message
theorem ok_H_spec_l5Message : H_spec_l5Message.ok Try.prog := AllOk.okR (.cons ok_spec_l5Has (.cons ok_spec_l5In .nil)) (.cons ok_spec_l1Rd_pick (.cons ok_spec_l1Rd_digest (.cons ok_spec_l1Many (.cons ok_spec_l5Size (.cons ok_spec_l1Rd_text .nil))))) mix
theorem f_l5Message (b : List UInt8) (p : Int) (h0 : 0 ≤ p) (h1 : p + 1000 ≤ rdM) : ∃ t : Msg × Int, (p ≤ t.2 ∧ t.2 ≤ p + 1000 ∧ msgSm t.1) ∧ VFun Try.prog 83 [rdP] [some (rdR b p)] (oMsgJ 1 2 t.1) (rdM2 b t.2 t.1) := by
  unfold rdM at h1
  refine VFun_relE (n := 105) (rs := [.cell 2 36]) Try.func83 rfl rfl rfl rfl H_spec_l5Message ok_H_spec_l5Message  (rin := [rdR b p]) (T := Msg × Int) (fun t => oMsgJ 1 2 t.1) (fun t => rdM2 b t.2 t.1) (fun t => p ≤ t.2 ∧ t.2 ≤ p + 1000 ∧ msgSm t.1) (Nat.le_of_ble_eq_true rfl) (by kernel_rfl) ?_
  simp only [go_sem, ↓reduceIte, reduceCtorEq, Nat.reduceAdd, Nat.reduceMul, Nat.reduceEqDiff, Nat.reduceSub, Nat.reduceLT, Nat.reduceLeDiff, Nat.reduceAnd, Nat.reduceShiftRight, Nat.reduceBEq, Nat.reduceBNe, Nat.reduceBneDiff, Nat.reduceBeqDiff, Int.reduceToNat, Int.reduceLE, Int.reduceLT, Int.reduceEq]
  refine ⟨by omega, ?_⟩; rintro a0 p0 g0
  have wk : IntKind.i64.wrap (1 + a0) = 1 + a0 := by rw [wrap64] <;> omega
  simp only [wk]
  obtain ⟨kk, hkk⟩ : ∃ kk, 1 + a0 = kk := ⟨_, rfl⟩
  simp only [hkk]
  have hp := partsN_len kk
  refine CutS.intro (H := H_spec_l5Message) ok_H_spec_l5Message (by kernel_rfl) (by kernel_rfl) (fun y : Int × Int => ⟨[(0, rdP), (2, .x (.o (.p (1, 100) 0 0 1))), (3, .x (.o (.p (1, 101) 0 0 1))), (4, sc (.string ⟨(partsN kk).toArray⟩))], [((0, 0), rdR b y.2), ((1, 100), .bx [zBxMs]), ((1, 101), .bx [bxMs ((kk, y.1, 0, 0, zDig, 0, [], []) : Msg) (1, 102) (1, 103)]), ((1, 102), .row 4 (((kk, y.1, 0, 0, zDig, 0, [], []) : Msg).2.2.2.2.2.2.1.map cDigest.enc)), ((1, 103), .row 1 (((kk, y.1, 0, 0, zDig, 0, [], []) : Msg).2.2.2.2.2.2.2.map cStr.enc))], 2⟩) (fun y => p ≤ y.2 ∧ y.2 ≤ p + 10) ?_ ?_
  · simp only [go_sem, ↓reduceIte, reduceCtorEq, Nat.reduceAdd, Nat.reduceMul, Nat.reduceEqDiff, Nat.reduceSub, Nat.reduceLT, Nat.reduceLeDiff, Nat.reduceAnd, Nat.reduceShiftRight, Nat.reduceBEq, Nat.reduceBNe, Nat.reduceBneDiff, Nat.reduceBeqDiff, Int.reduceToNat, Int.reduceLE, Int.reduceLT, Int.reduceEq]
    exact ⟨by omega, ite_intro (fun _ => ⟨by omega, fun v q g => ⟨by omega, fun w q2 g2 => ite_intro (fun _ => ⟨by omega, fun u q3 g3 => ⟨(_, q3), ⟨by dsimp only; omega, by dsimp only; omega⟩, rfl⟩⟩) fun _ => ⟨(_, q2), ⟨by dsimp only; omega, by dsimp only; omega⟩, rfl⟩⟩⟩) fun _ => ⟨(0, p0), ⟨by dsimp only; omega, by dsimp only; omega⟩, rfl⟩⟩
  rintro ⟨ses, p1⟩ g1
  dsimp only at g1
  refine CutS.intro (H := H_spec_l5Message) ok_H_spec_l5Message (by kernel_rfl) (by kernel_rfl) (fun y : Int × Int => ⟨[(0, rdP), (2, .x (.o (.p (1, 100) 0 0 1))), (3, .x (.o (.p (1, 101) 0 0 1))), (4, sc (.string ⟨(partsN kk).toArray⟩))], [((0, 0), rdR b y.2), ((1, 100), .bx [zBxMs]), ((1, 101), .bx [bxMs ((kk, ses, y.1, 0, zDig, 0, [], []) : Msg) (1, 102) (1, 103)]), ((1, 102), .row 4 (((kk, ses, y.1, 0, zDig, 0, [], []) : Msg).2.2.2.2.2.2.1.map cDigest.enc)), ((1, 103), .row 1 (((kk, ses, y.1, 0, zDig, 0, [], []) : Msg).2.2.2.2.2.2.2.map cStr.enc))], 2⟩) (fun y => p ≤ y.2 ∧ y.2 ≤ p + 12) ?_ ?_
  · simp only [go_sem, ↓reduceIte, reduceCtorEq, Nat.reduceAdd, Nat.reduceMul, Nat.reduceEqDiff, Nat.reduceSub, Nat.reduceLT, Nat.reduceLeDiff, Nat.reduceAnd, Nat.reduceShiftRight, Nat.reduceBEq, Nat.reduceBNe, Nat.reduceBneDiff, Nat.reduceBeqDiff, Int.reduceToNat, Int.reduceLE, Int.reduceLT, Int.reduceEq]
    exact ⟨by omega, ite_intro (fun _ => ⟨by omega, fun v q g => ⟨(v, q), ⟨by dsimp only; omega, by dsimp only; omega⟩, rfl⟩⟩) fun _ => ⟨(0, p1), ⟨by dsimp only; omega, by dsimp only; omega⟩, rfl⟩⟩
  rintro ⟨frm, p2⟩ g2
  dsimp only at g2
  refine CutS.intro (H := H_spec_l5Message) ok_H_spec_l5Message (by kernel_rfl) (by kernel_rfl) (fun y : Int × Int => ⟨[(0, rdP), (2, .x (.o (.p (1, 100) 0 0 1))), (3, .x (.o (.p (1, 101) 0 0 1))), (4, sc (.string ⟨(partsN kk).toArray⟩))], [((0, 0), rdR b y.2), ((1, 100), .bx [zBxMs]), ((1, 101), .bx [bxMs ((kk, ses, frm, y.1, zDig, 0, [], []) : Msg) (1, 102) (1, 103)]), ((1, 102), .row 4 (((kk, ses, frm, y.1, zDig, 0, [], []) : Msg).2.2.2.2.2.2.1.map cDigest.enc)), ((1, 103), .row 1 (((kk, ses, frm, y.1, zDig, 0, [], []) : Msg).2.2.2.2.2.2.2.map cStr.enc))], 2⟩) (fun y => p ≤ y.2 ∧ y.2 ≤ p + 14) ?_ ?_
  · simp only [go_sem, ↓reduceIte, reduceCtorEq, Nat.reduceAdd, Nat.reduceMul, Nat.reduceEqDiff, Nat.reduceSub, Nat.reduceLT, Nat.reduceLeDiff, Nat.reduceAnd, Nat.reduceShiftRight, Nat.reduceBEq, Nat.reduceBNe, Nat.reduceBneDiff, Nat.reduceBeqDiff, Int.reduceToNat, Int.reduceLE, Int.reduceLT, Int.reduceEq]
    exact ⟨by omega, ite_intro (fun _ => ⟨by omega, fun v q g => ⟨(v, q), ⟨by dsimp only; omega, by dsimp only; omega⟩, rfl⟩⟩) fun _ => ⟨(0, p2), ⟨by dsimp only; omega, by dsimp only; omega⟩, rfl⟩⟩
  rintro ⟨siz, p3⟩ g3
  dsimp only at g3
  refine CutS.intro (H := H_spec_l5Message) ok_H_spec_l5Message (by kernel_rfl) (by kernel_rfl) (fun y : Digest × Int => ⟨[(0, rdP), (2, .x (.o (.p (1, 100) 0 0 1))), (3, .x (.o (.p (1, 101) 0 0 1))), (4, sc (.string ⟨(partsN kk).toArray⟩))], [((0, 0), rdR b y.2), ((1, 100), .bx [zBxMs]), ((1, 101), .bx [bxMs ((kk, ses, frm, siz, y.1, 0, [], []) : Msg) (1, 102) (1, 103)]), ((1, 102), .row 4 (((kk, ses, frm, siz, y.1, 0, [], []) : Msg).2.2.2.2.2.2.1.map cDigest.enc)), ((1, 103), .row 1 (((kk, ses, frm, siz, y.1, 0, [], []) : Msg).2.2.2.2.2.2.2.map cStr.enc))], 2⟩) (fun y => p ≤ y.2 ∧ y.2 ≤ p + 54) ?_ ?_
  · simp only [go_sem, ↓reduceIte, reduceCtorEq, Nat.reduceAdd, Nat.reduceMul, Nat.reduceEqDiff, Nat.reduceSub, Nat.reduceLT, Nat.reduceLeDiff, Nat.reduceAnd, Nat.reduceShiftRight, Nat.reduceBEq, Nat.reduceBNe, Nat.reduceBneDiff, Nat.reduceBeqDiff, Int.reduceToNat, Int.reduceLE, Int.reduceLT, Int.reduceEq]
    exact ⟨by omega, ite_intro (fun _ => ⟨by omega, fun v q g => ⟨(v, q), ⟨by dsimp only; omega, by dsimp only; omega⟩, rfl⟩⟩) fun _ => ⟨(zDig, p3), ⟨by dsimp only; omega, by dsimp only; omega⟩, rfl⟩⟩
  rintro ⟨rt, p4⟩ g4
  dsimp only at g4
  refine CutS.intro (H := H_spec_l5Message) ok_H_spec_l5Message (by kernel_rfl) (by kernel_rfl) (fun y : Int × Int => ⟨[(0, rdP), (2, .x (.o (.p (1, 100) 0 0 1))), (3, .x (.o (.p (1, 101) 0 0 1))), (4, sc (.string ⟨(partsN kk).toArray⟩))], [((0, 0), rdR b y.2), ((1, 100), .bx [zBxMs]), ((1, 101), .bx [bxMs ((kk, ses, frm, siz, rt, y.1, [], []) : Msg) (1, 102) (1, 103)]), ((1, 102), .row 4 (((kk, ses, frm, siz, rt, y.1, [], []) : Msg).2.2.2.2.2.2.1.map cDigest.enc)), ((1, 103), .row 1 (((kk, ses, frm, siz, rt, y.1, [], []) : Msg).2.2.2.2.2.2.2.map cStr.enc))], 2⟩) (fun y => p ≤ y.2 ∧ y.2 ≤ p + 55) ?_ ?_
  · simp only [go_sem, ↓reduceIte, reduceCtorEq, Nat.reduceAdd, Nat.reduceMul, Nat.reduceEqDiff, Nat.reduceSub, Nat.reduceLT, Nat.reduceLeDiff, Nat.reduceAnd, Nat.reduceShiftRight, Nat.reduceBEq, Nat.reduceBNe, Nat.reduceBneDiff, Nat.reduceBeqDiff, Int.reduceToNat, Int.reduceLE, Int.reduceLT, Int.reduceEq]
    exact ⟨by omega, ite_intro (fun _ => ⟨by omega, fun v q g => ⟨(_, q), ⟨by dsimp only; omega, by dsimp only; omega⟩, rfl⟩⟩) fun _ => ⟨(0, p4), ⟨by dsimp only; omega, by dsimp only; omega⟩, rfl⟩⟩
  rintro ⟨cnt, p5⟩ g5
  dsimp only at g5
  refine CutS.intro (H := H_spec_l5Message) ok_H_spec_l5Message (by kernel_rfl) (by kernel_rfl) (fun y : List Digest × Int => ⟨[(0, rdP), (2, .x (.o (.p (1, 100) 0 0 1))), (3, .x (.o (.p (1, 101) 0 0 1))), (4, sc (.string ⟨(partsN kk).toArray⟩))], [((0, 0), rdR b y.2), ((1, 100), .bx [zBxMs]), ((1, 101), .bx [bxMs ((kk, ses, frm, siz, rt, cnt, y.1, []) : Msg) (1, 102) (1, 103)]), ((1, 102), .row 4 (((kk, ses, frm, siz, rt, cnt, y.1, []) : Msg).2.2.2.2.2.2.1.map cDigest.enc)), ((1, 103), .row 1 (((kk, ses, frm, siz, rt, cnt, y.1, []) : Msg).2.2.2.2.2.2.2.map cStr.enc))], 2⟩) (fun y => p ≤ y.2 ∧ y.2 ≤ p + 300 ∧ y.1.length ≤ 30) ?_ ?_
  · by_cases hc : (partsN kk).contains 112 = true
    case neg =>
      have hc' : (partsN kk).contains 112 = false := by simpa using hc
      simp only [go_sem, ↓reduceIte, reduceCtorEq, Nat.reduceAdd, Nat.reduceMul, Nat.reduceEqDiff, Nat.reduceSub, Nat.reduceLT, Nat.reduceLeDiff, Nat.reduceAnd, Nat.reduceShiftRight, Nat.reduceBEq, Nat.reduceBNe, Nat.reduceBneDiff, Nat.reduceBeqDiff, Int.reduceToNat, Int.reduceLE, Int.reduceLT, Int.reduceEq, hc']
      exact ⟨by omega, ([], p5), ⟨by dsimp only; omega, by dsimp only; omega, by simp⟩, rfl⟩
    simp only [go_sem, ↓reduceIte, reduceCtorEq, Nat.reduceAdd, Nat.reduceMul, Nat.reduceEqDiff, Nat.reduceSub, Nat.reduceLT, Nat.reduceLeDiff, Nat.reduceAnd, Nat.reduceShiftRight, Nat.reduceBEq, Nat.reduceBNe, Nat.reduceBneDiff, Nat.reduceBeqDiff, Int.reduceToNat, Int.reduceLE, Int.reduceLT, Int.reduceEq, hc]
    refine ⟨by omega, by omega, fun n0 q0 gq => ?_⟩
    refine LoopV.go (H := H_spec_l5Message) ok_H_spec_l5Message (by kernel_rfl) (fun y : List Digest × Int × Int => ⟨[(0, rdP), (2, .x (.o (.p (1, 100) 0 0 1))), (3, .x (.o (.p (1, 101) 0 0 1))), (4, sc (.string ⟨(partsN kk).toArray⟩)), (5, sc (.int .i64 y.2.1))], [((0, 0), rdR b y.2.2), ((1, 100), .bx [zBxMs]), ((1, 101), .bx [bxMs ((kk, ses, frm, siz, rt, cnt, y.1, []) : Msg) (1, 102) (1, 103)]), ((1, 102), .row 4 (((kk, ses, frm, siz, rt, cnt, y.1, []) : Msg).2.2.2.2.2.2.1.map cDigest.enc)), ((1, 103), .row 1 (((kk, ses, frm, siz, rt, cnt, y.1, []) : Msg).2.2.2.2.2.2.2.map cStr.enc))], 2⟩) (fun y => y.2.1.toNat) (fun y => ((y.1.length : Int) + y.2.1 ≤ 5 ∧ 0 ≤ y.2.1) ∧ p5 ≤ y.2.2 ∧ y.2.2 ≤ p5 + 1 + 40 * y.1.length) ?_ ([], n0, q0) ⟨by simp; omega, by dsimp only; omega, by simp; omega⟩
    rintro ⟨prf, n, q1⟩ ⟨j1, j2, j3⟩
    dsimp only at j1 j2 j3
    by_cases hlt : 0 < n
    · have w : IntKind.i64.wrap (n - 1) = n - 1 := by rw [wrap64] <;> omega
      simp only [go_sem, ↓reduceIte, reduceCtorEq, Nat.reduceAdd, Nat.reduceMul, Nat.reduceEqDiff, Nat.reduceSub, Nat.reduceLT, Nat.reduceLeDiff, Nat.reduceAnd, Nat.reduceShiftRight, Nat.reduceBEq, Nat.reduceBNe, Nat.reduceBneDiff, Nat.reduceBeqDiff, Int.reduceToNat, Int.reduceLE, Int.reduceLT, Int.reduceEq, hlt, w]
      exact ⟨by omega, fun d q2 g => ⟨by omega, (prf ++ [d], n - 1, q2), ⟨by simp; omega, by dsimp only; omega, by simp; omega⟩, by dsimp only; omega, by rw [List.length_append, List.map_append]; rfl⟩⟩
    simp only [go_sem, ↓reduceIte, reduceCtorEq, Nat.reduceAdd, Nat.reduceMul, Nat.reduceEqDiff, Nat.reduceSub, Nat.reduceLT, Nat.reduceLeDiff, Nat.reduceAnd, Nat.reduceShiftRight, Nat.reduceBEq, Nat.reduceBNe, Nat.reduceBneDiff, Nat.reduceBeqDiff, Int.reduceToNat, Int.reduceLE, Int.reduceLT, Int.reduceEq, hlt]
    refine ⟨by omega, fun v q2 g => ite_intro (fun _ => ?_) fun _ => ⟨(prf, q2), ⟨by dsimp only; omega, by dsimp only; omega, by dsimp only; omega⟩, rfl⟩⟩
    refine LoopV.go (H := H_spec_l5Message) ok_H_spec_l5Message (by kernel_rfl) (fun y : List Digest => ⟨[(0, rdP), (2, .x (.o (.p (1, 100) 0 0 1))), (3, .x (.o (.p (1, 101) 0 0 1))), (4, sc (.string ⟨(partsN kk).toArray⟩))], [((0, 0), rdR b q2), ((1, 100), .bx [zBxMs]), ((1, 101), .bx [bxMs ((kk, ses, frm, siz, rt, cnt, y, []) : Msg) (1, 102) (1, 103)]), ((1, 102), .row 4 (((kk, ses, frm, siz, rt, cnt, y, []) : Msg).2.2.2.2.2.2.1.map cDigest.enc)), ((1, 103), .row 1 (((kk, ses, frm, siz, rt, cnt, y, []) : Msg).2.2.2.2.2.2.2.map cStr.enc))], 2⟩) (fun y => 16 - y.length) (fun y => y.length ≤ 16) ?_ prf (by omega)
    intro y hy
    by_cases h16 : (y.length : Int) < 16
    · simp only [go_sem, ↓reduceIte, reduceCtorEq, Nat.reduceAdd, Nat.reduceMul, Nat.reduceEqDiff, Nat.reduceSub, Nat.reduceLT, Nat.reduceLeDiff, Nat.reduceAnd, Nat.reduceShiftRight, Nat.reduceBEq, Nat.reduceBNe, Nat.reduceBneDiff, Nat.reduceBeqDiff, Int.reduceToNat, Int.reduceLE, Int.reduceLT, Int.reduceEq, h16]
      exact ⟨by omega, y ++ [zDig], by simp; omega, by simp; omega, by rw [List.length_append, List.map_append]; rfl⟩
    · simp only [go_sem, ↓reduceIte, reduceCtorEq, Nat.reduceAdd, Nat.reduceMul, Nat.reduceEqDiff, Nat.reduceSub, Nat.reduceLT, Nat.reduceLeDiff, Nat.reduceAnd, Nat.reduceShiftRight, Nat.reduceBEq, Nat.reduceBNe, Nat.reduceBneDiff, Nat.reduceBeqDiff, Int.reduceToNat, Int.reduceLE, Int.reduceLT, Int.reduceEq, h16]
      exact ⟨(y, q2), ⟨by dsimp only; omega, by dsimp only; omega, by dsimp only; omega⟩, rfl⟩
  rintro ⟨prf, p6⟩ g6
  dsimp only at g6
  refine CutS.intro (H := H_spec_l5Message) ok_H_spec_l5Message (by kernel_rfl) (by kernel_rfl) (fun y : List ByteArray × Int => ⟨[(2, .x (.o (.p (1, 100) 0 0 1))), (3, .x (.o (.p (1, 101) 0 0 1)))], [((0, 0), rdR b y.2), ((1, 100), .bx [zBxMs]), ((1, 101), .bx [bxMs ((kk, ses, frm, siz, rt, cnt, prf, y.1) : Msg) (1, 102) (1, 103)]), ((1, 102), .row 4 (((kk, ses, frm, siz, rt, cnt, prf, y.1) : Msg).2.2.2.2.2.2.1.map cDigest.enc)), ((1, 103), .row 1 (((kk, ses, frm, siz, rt, cnt, prf, y.1) : Msg).2.2.2.2.2.2.2.map cStr.enc))], 2⟩) (fun y => p ≤ y.2 ∧ y.2 ≤ p + 600 ∧ y.1.length ≤ 30) ?_ ?_
  · by_cases hc : (partsN kk).contains 108 = true
    case neg =>
      have hc' : (partsN kk).contains 108 = false := by simpa using hc
      simp only [go_sem, ↓reduceIte, reduceCtorEq, Nat.reduceAdd, Nat.reduceMul, Nat.reduceEqDiff, Nat.reduceSub, Nat.reduceLT, Nat.reduceLeDiff, Nat.reduceAnd, Nat.reduceShiftRight, Nat.reduceBEq, Nat.reduceBNe, Nat.reduceBneDiff, Nat.reduceBeqDiff, Int.reduceToNat, Int.reduceLE, Int.reduceLT, Int.reduceEq, hc']
      exact ⟨by omega, ([], p6), ⟨by dsimp only; omega, by dsimp only; omega, by simp⟩, rfl⟩
    simp only [go_sem, ↓reduceIte, reduceCtorEq, Nat.reduceAdd, Nat.reduceMul, Nat.reduceEqDiff, Nat.reduceSub, Nat.reduceLT, Nat.reduceLeDiff, Nat.reduceAnd, Nat.reduceShiftRight, Nat.reduceBEq, Nat.reduceBNe, Nat.reduceBneDiff, Nat.reduceBeqDiff, Int.reduceToNat, Int.reduceLE, Int.reduceLT, Int.reduceEq, hc]
    refine ⟨by omega, by omega, fun n0 q0 gq => ?_⟩
    refine LoopV.go (H := H_spec_l5Message) ok_H_spec_l5Message (by kernel_rfl) (fun y : List ByteArray × Int × Int => ⟨[(0, rdP), (2, .x (.o (.p (1, 100) 0 0 1))), (3, .x (.o (.p (1, 101) 0 0 1))), (6, sc (.int .i64 y.2.1))], [((0, 0), rdR b y.2.2), ((1, 100), .bx [zBxMs]), ((1, 101), .bx [bxMs ((kk, ses, frm, siz, rt, cnt, prf, y.1) : Msg) (1, 102) (1, 103)]), ((1, 102), .row 4 (((kk, ses, frm, siz, rt, cnt, prf, y.1) : Msg).2.2.2.2.2.2.1.map cDigest.enc)), ((1, 103), .row 1 (((kk, ses, frm, siz, rt, cnt, prf, y.1) : Msg).2.2.2.2.2.2.2.map cStr.enc))], 2⟩) (fun y => y.2.1.toNat) (fun y => ((y.1.length : Int) + y.2.1 ≤ 9 ∧ 0 ≤ y.2.1) ∧ p6 ≤ y.2.2 ∧ y.2.2 ≤ p6 + 1 + 5 * y.1.length) ?_ ([], n0, q0) ⟨by simp; omega, by dsimp only; omega, by simp; omega⟩
    rintro ⟨lvs, n, q1⟩ ⟨j1, j2, j3⟩
    dsimp only at j1 j2 j3
    by_cases hlt : 0 < n
    · have w : IntKind.i64.wrap (n - 1) = n - 1 := by rw [wrap64] <;> omega
      simp only [go_sem, ↓reduceIte, reduceCtorEq, Nat.reduceAdd, Nat.reduceMul, Nat.reduceEqDiff, Nat.reduceSub, Nat.reduceLT, Nat.reduceLeDiff, Nat.reduceAnd, Nat.reduceShiftRight, Nat.reduceBEq, Nat.reduceBNe, Nat.reduceBneDiff, Nat.reduceBeqDiff, Int.reduceToNat, Int.reduceLE, Int.reduceLT, Int.reduceEq, hlt, w]
      refine ⟨by omega, fun d q2 g => ⟨by omega, (lvs ++ [d], n - 1, q2), ⟨by simp; omega, by dsimp only; omega, by simp; omega⟩, by dsimp only; omega, by rw [List.length_append, List.map_append]; rfl⟩⟩
    by_cases hl0 : 0 < lvs.length
    case neg =>
      have c0 : (0 < (lvs.length : Int)) = False := eq_false (by omega)
      simp only [go_sem, ↓reduceIte, reduceCtorEq, Nat.reduceAdd, Nat.reduceMul, Nat.reduceEqDiff, Nat.reduceSub, Nat.reduceLT, Nat.reduceLeDiff, Nat.reduceAnd, Nat.reduceShiftRight, Nat.reduceBEq, Nat.reduceBNe, Nat.reduceBneDiff, Nat.reduceBeqDiff, Int.reduceToNat, Int.reduceLE, Int.reduceLT, Int.reduceEq, hlt, c0]
      exact ⟨by omega, fun v q2 g => ite_intro (fun _ => ⟨(lvs, q2), ⟨by dsimp only; omega, by dsimp only; omega, by dsimp only; omega⟩, rfl⟩) fun _ => ⟨(lvs, q2), ⟨by dsimp only; omega, by dsimp only; omega, by dsimp only; omega⟩, rfl⟩⟩
    have c0 : (0 < (lvs.length : Int)) = True := eq_true (by omega)
    have hx : lvs[0]? = some (lvs[0]'hl0) := List.getElem?_eq_getElem hl0
    simp only [go_sem, ↓reduceIte, reduceCtorEq, Nat.reduceAdd, Nat.reduceMul, Nat.reduceEqDiff, Nat.reduceSub, Nat.reduceLT, Nat.reduceLeDiff, Nat.reduceAnd, Nat.reduceShiftRight, Nat.reduceBEq, Nat.reduceBNe, Nat.reduceBneDiff, Nat.reduceBeqDiff, Int.reduceToNat, Int.reduceLE, Int.reduceLT, Int.reduceEq, hlt, c0, eq_true hl0, hx]
    refine ⟨by omega, fun v q2 g => ite_intro (fun _ t ht => ⟨(lvs.set 0 t, q2), ⟨by dsimp only; omega, by dsimp only; omega, by simp; omega⟩, ?_⟩) fun _ => ⟨(lvs, q2), ⟨by dsimp only; omega, by dsimp only; omega, by dsimp only; omega⟩, rfl⟩⟩
    simp only [List.length_set, List.map_set]
    rfl
  rintro ⟨lvs, p7⟩ g7
  dsimp only at g7
  simp only [go_sem, ↓reduceIte, reduceCtorEq, Nat.reduceAdd, Nat.reduceMul, Nat.reduceEqDiff, Nat.reduceSub, Nat.reduceLT, Nat.reduceLeDiff, Nat.reduceAnd, Nat.reduceShiftRight, Nat.reduceBEq, Nat.reduceBNe, Nat.reduceBneDiff, Nat.reduceBeqDiff, Int.reduceToNat, Int.reduceLE, Int.reduceLT, Int.reduceEq]
  exact ⟨((kk, ses, frm, siz, rt, cnt, prf, lvs), p7), ⟨by dsimp only; omega, by dsimp only; omega, by dsimp only; omega, by dsimp only; omega⟩, rfl, rfl⟩

theorem growM_len (l : List ByteArray) (m : Int) : (growM l m).1.length ≤ l.length := by
  unfold growM
  split
  · unfold growN
    split
    · exact Nat.zero_le _
    · rename_i h1 h
      rw [List.length_map, List.length_append]
      rcases Nat.eq_zero_or_pos l.length with h0 | h0
      · have : growOk l m = true := h1
        unfold growOk at this
        simp only [Bool.and_eq_true, decide_eq_true_eq] at this
        omega
      · have := (fall_in 0 l.length m.toNat h0).2.2
        omega
  · exact Nat.zero_le _
theorem ansM_len {l : List ByteArray} {m : Msg} : (ansM l m).1.2.2.2.2.2.2.1.length ≤ 256 ∧ (ansM l m).1.2.2.2.2.2.2.2.length ≤ 256 := by
  by_cases h : leavesOk l = true ∧ wireOkM m = true
  · have hl := leavesOk_iff h.1
    unfold ansM
    rw [if_pos h]
    split
    · exact ⟨by simp, by simp⟩
    · split
      · have := growM_len (l.take m.2.2.2.1.toNat) m.2.2.1
        rw [List.length_take] at this
        exact ⟨by dsimp only; omega, by simp⟩
      · split
        · refine ⟨by simp, ?_⟩
          show (takeN l _ _).length ≤ 256
          unfold takeN
          rw [List.length_take, List.length_drop]
          omega
        · exact ⟨by simp, by simp⟩
  · rw [ansM_no h]
    exact ⟨by simp, by simp⟩

abbrev RMsg : FR where
  md := []
  m args rin := match args, rin with
    | [.x (.o (.p (0, 0) 0 0 1))], [.bx [[.c (.s rows), .c (.v (.int .i64 p))]]] => match mapO cU8.dec rows with
      | some b => some (rows = b.map cU8.enc ∧ 0 ≤ p ∧ p + 1000 ≤ rdM, fun k => ∀ (m : Msg) q, p ≤ q ∧ q ≤ p + 1000 ∧ msgSm m → k (oMsgJ 1 2 m) (rdM2 b q m))
      | none => none
    | _, _ => none
attribute [go_sem] RMsg
theorem RMsg_ok {P : Program} {g : FuncId} (h : ∀ (b : List UInt8) (p : Int), 0 ≤ p → p + 1000 ≤ rdM → ∃ t : Msg × Int, (p ≤ t.2 ∧ t.2 ≤ p + 1000 ∧ msgSm t.1) ∧ VFun P g [rdP] [some (rdR b p)] (oMsgJ 1 2 t.1) (rdM2 b t.2 t.1)) : RMsg.ok P g := by
  intro args rin pre W hm hp k hk
  simp only [RMsg] at hm
  split at hm
  · split at hm
    · cases hm
      obtain ⟨e, h1, h2⟩ := hp
      subst e
      obtain ⟨t, h3, h4⟩ := h _ _ h1 h2
      exact ⟨_, _, h4, hk _ _ h3⟩
    · cases hm
  · cases hm
theorem ok_spec_l5Message : RMsg.ok Try.prog 83 := RMsg_ok fun b p h0 h1 => f_l5Message b p h0 h1

abbrev msgL (m : Msg) (j k : Nat) : Prop := m.2.2.2.2.2.2.1.length ≤ j ∧ m.2.2.2.2.2.2.2.length ≤ k
abbrev RMsgS : FR where
  md := [1, 2]
  m args rin := match args, rin with
    | [.x (.o (.p (0, 0) 0 0 1)), e2], [.bx [[.c (.s rows), .c (.v (.int .i64 p))]], .row 4 rowd, .row 1 rowt] => match mapO cU8.dec rows, mapO cDigest.dec rowd, mapO cStr.dec rowt with
      | some b, some xs, some ys => some (rows = b.map cU8.enc ∧ rowd = xs.map cDigest.enc ∧ rowt = ys.map cStr.enc ∧ 0 ≤ p ∧ p + 100 ≤ rdM ∧ ∃ m : Msg, e2 = oMsgJ 1 2 m ∧ xs = m.2.2.2.2.2.2.1 ∧ ys = m.2.2.2.2.2.2.2 ∧ msgL m 10000 10000, fun k => ∀ (m : Msg) q, p ≤ q ∧ q ≤ p + 100 ∧ msgL m 10040 10040 → k (oMsgJ 1 2 m) (rdM2 b q m))
      | _, _, _ => none
    | _, _ => none
attribute [go_sem] RMsgS
theorem RMsgS_ok {P : Program} {g : FuncId} (h : ∀ (b : List UInt8) (p : Int) (c : Msg), 0 ≤ p → p + 100 ≤ rdM → msgL c 10000 10000 → ∃ t : Msg × Int, (p ≤ t.2 ∧ t.2 ≤ p + 100 ∧ msgL t.1 10040 10040) ∧ VFun P g [rdP, oMsgJ 1 2 c] (rdM2 b p c) (oMsgJ 1 2 t.1) (rdM2 b t.2 t.1)) : RMsgS.ok P g := by
  intro args rin pre W hm hp k hk
  simp only [RMsgS] at hm
  split at hm
  · split at hm
    · cases hm
      obtain ⟨e, e2, e3, h1, h2, c, e4, e5, e6, h3⟩ := hp
      subst e e2 e3 e4 e5 e6
      obtain ⟨t, h3, h4⟩ := h _ _ c h1 h2 h3
      exact ⟨_, _, h4, hk _ _ h3⟩
    · cases hm
  · cases hm

def H_spec_l5Spoilt : Hint := { fs := [], kp := [(0, [0, 1]), (1, [0, 3, 4]), (2, [0, 3, 4, 5]), (3, [0, 3, 4, 5]), (4, [0, 3, 4, 5]), (5, [0, 3, 4, 5]), (6, [0, 3, 4, 5]), (7, [0, 3, 4, 5]), (8, [0, 3, 4, 5]), (9, [0, 3, 4, 5]), (10, [0, 3, 4, 5]), (11, [0, 3, 4, 5]), (12, [0, 3, 4, 5]), (13, [0, 3, 4, 5]), (14, [0, 3, 4, 5]), (15, [0, 3, 4, 5]), (16, [0, 3, 4, 5, 6]), (17, [0, 3, 4, 5, 6]), (18, [0, 3, 4, 5]), (19, [0, 3, 4, 5]), (20, [0, 3, 4, 5]), (21, [0, 3, 4]), (22, [3, 4, 7]), (23, [3, 4, 7]), (24, [3, 4])], an := [(19, [0, 1, 0, 4, 12, 28, 60, 127, 255, 511])], rs := [(49, RPickL), (84, RDigest), (85, RMany)], own := true, cut := [2, 4, 6, 8, 10, 12, 14, 18, 20, 24] }
attribute [go_sem] H_spec_l5Spoilt
theorem ok_H_spec_l5Spoilt : H_spec_l5Spoilt.ok Try.prog := AllOk.okR .nil (.cons okR_pickL (.cons ok_spec_l1Rd_digest (.cons ok_spec_l1Many .nil))) mix
theorem f_l5Spoilt (b : List UInt8) (p : Int) (c : Msg) (h0 : 0 ≤ p) (h1 : p + 100 ≤ rdM) (hc : msgL c 10000 10000) : ∃ t : Msg × Int, (p ≤ t.2 ∧ t.2 ≤ p + 100 ∧ msgL t.1 10040 10040) ∧ VFun Try.prog 50 [rdP, oMsgJ 1 2 c] (rdM2 b p c) (oMsgJ 1 2 t.1) (rdM2 b t.2 t.1) := by
  unfold rdM at h1
  refine VFun_relE (n := 96) (rs := [.cell 4 36]) Try.func50 rfl rfl rfl rfl H_spec_l5Spoilt ok_H_spec_l5Spoilt  (rin := [rdR b p, oR cDigest c.2.2.2.2.2.2.1, oR cStr c.2.2.2.2.2.2.2]) (T := Msg × Int) (fun t => oMsgJ 1 2 t.1) (fun t => rdM2 b t.2 t.1) (fun t => p ≤ t.2 ∧ t.2 ≤ p + 100 ∧ msgL t.1 10040 10040) (Nat.le_of_ble_eq_true rfl) (by kernel_rfl) ?_
  simp only [go_sem, ↓reduceIte, reduceCtorEq, Nat.reduceAdd, Nat.reduceMul, Nat.reduceEqDiff, Nat.reduceSub, Nat.reduceLT, Nat.reduceLeDiff, Nat.reduceAnd, Nat.reduceShiftRight, Nat.reduceBEq, Nat.reduceBNe, Nat.reduceBneDiff, Nat.reduceBeqDiff, Int.reduceToNat, Int.reduceLE, Int.reduceLT, Int.reduceEq]
  refine CutS.intro (H := H_spec_l5Spoilt) ok_H_spec_l5Spoilt (by kernel_rfl) (by kernel_rfl) (fun y : Int × Int => ⟨[(0, rdP), (3, .x (.o (.p (1, 100) 0 0 1))), (4, .x (.o (.p (1, 101) 0 0 1))), (5, sc (.int .i64 y.1))], [((0, 0), rdR b y.2), ((0, 1), .row 4 ((c).2.2.2.2.2.2.1.map cDigest.enc)), ((0, 2), .row 1 ((c).2.2.2.2.2.2.2.map cStr.enc)), ((1, 100), .bx [bxMs c (0, 1) (0, 2)]), ((1, 101), .bx [zBxMs])], 2⟩) (fun y => p ≤ y.2 ∧ y.2 ≤ p + 1) ?_ ?_
  · simp only [go_sem, ↓reduceIte, reduceCtorEq, Nat.reduceAdd, Nat.reduceMul, Nat.reduceEqDiff, Nat.reduceSub, Nat.reduceLT, Nat.reduceLeDiff, Nat.reduceAnd, Nat.reduceShiftRight, Nat.reduceBEq, Nat.reduceBNe, Nat.reduceBneDiff, Nat.reduceBeqDiff, Int.reduceToNat, Int.reduceLE, Int.reduceLT, Int.reduceEq]
    refine ⟨by omega, ?_⟩; rintro k p0 g0
    exact ⟨(k, p0), by dsimp only; omega, rfl⟩
  rintro ⟨k, p0⟩ g0
  dsimp only at g0
  obtain ⟨kd, ses, frm, siz, rt, cnt, prf, lvs⟩ := c
  dsimp only [msgL] at hc
  refine CutS.intro (H := H_spec_l5Spoilt) ok_H_spec_l5Spoilt (by kernel_rfl) (by kernel_rfl) (fun y : Msg × Int => ⟨[(0, rdP), (3, .x (.o (.p (1, 100) 0 0 1))), (4, .x (.o (.p (1, 101) 0 0 1))), (5, sc (.int .i64 k))], [((0, 0), rdR b y.2), ((0, 1), .row 4 ((y.1).2.2.2.2.2.2.1.map cDigest.enc)), ((0, 2), .row 1 ((y.1).2.2.2.2.2.2.2.map cStr.enc)), ((1, 100), .bx [bxMs y.1 (0, 1) (0, 2)]), ((1, 101), .bx [zBxMs])], 2⟩) (fun y => p ≤ y.2 ∧ y.2 ≤ p + 2 ∧ msgL y.1 10000 10000) ?_ ?_
  · simp only [go_sem, ↓reduceIte, reduceCtorEq, Nat.reduceAdd, Nat.reduceMul, Nat.reduceEqDiff, Nat.reduceSub, Nat.reduceLT, Nat.reduceLeDiff, Nat.reduceAnd, Nat.reduceShiftRight, Nat.reduceBEq, Nat.reduceBNe, Nat.reduceBneDiff, Nat.reduceBeqDiff, Int.reduceToNat, Int.reduceLE, Int.reduceLT, Int.reduceEq]
    exact ite_intro (fun _ => ⟨by omega, fun v q g => ⟨((IntKind.i64.wrap (v - 1), ses, frm, siz, rt, cnt, prf, lvs), q), ⟨by dsimp only; omega, by dsimp only; omega, by dsimp only; omega, by dsimp only; omega⟩, rfl⟩⟩) fun _ => ⟨((kd, ses, frm, siz, rt, cnt, prf, lvs), p0), ⟨by dsimp only; omega, by dsimp only; omega, by dsimp only; omega, by dsimp only; omega⟩, rfl⟩
  rintro ⟨⟨kd, ses, frm, siz, rt, cnt, prf, lvs⟩, p0⟩ g0
  dsimp only [msgL] at g0
  refine CutS.intro (H := H_spec_l5Spoilt) ok_H_spec_l5Spoilt (by kernel_rfl) (by kernel_rfl) (fun y : Msg × Int => ⟨[(0, rdP), (3, .x (.o (.p (1, 100) 0 0 1))), (4, .x (.o (.p (1, 101) 0 0 1))), (5, sc (.int .i64 k))], [((0, 0), rdR b y.2), ((0, 1), .row 4 ((y.1).2.2.2.2.2.2.1.map cDigest.enc)), ((0, 2), .row 1 ((y.1).2.2.2.2.2.2.2.map cStr.enc)), ((1, 100), .bx [bxMs y.1 (0, 1) (0, 2)]), ((1, 101), .bx [zBxMs])], 2⟩) (fun y => p ≤ y.2 ∧ y.2 ≤ p + 3 ∧ msgL y.1 10000 10000) ?_ ?_
  · simp only [go_sem, ↓reduceIte, reduceCtorEq, Nat.reduceAdd, Nat.reduceMul, Nat.reduceEqDiff, Nat.reduceSub, Nat.reduceLT, Nat.reduceLeDiff, Nat.reduceAnd, Nat.reduceShiftRight, Nat.reduceBEq, Nat.reduceBNe, Nat.reduceBneDiff, Nat.reduceBeqDiff, Int.reduceToNat, Int.reduceLE, Int.reduceLT, Int.reduceEq]
    refine ite_intro (fun _ => ⟨by omega, fun q g => ?_, fun q g => ?_, fun q g => ?_, fun q g => ?_⟩) fun _ => ⟨((kd, ses, frm, siz, rt, cnt, prf, lvs), p0), ⟨by dsimp only; omega, by dsimp only; omega, by dsimp only; omega, by dsimp only; omega⟩, rfl⟩
    · exact ⟨((kd, (-1), frm, siz, rt, cnt, prf, lvs), q), ⟨by dsimp only; omega, by dsimp only; omega, by dsimp only; omega, by dsimp only; omega⟩, rfl⟩
    · exact ⟨((kd, 0, frm, siz, rt, cnt, prf, lvs), q), ⟨by dsimp only; omega, by dsimp only; omega, by dsimp only; omega, by dsimp only; omega⟩, rfl⟩
    · exact ⟨((kd, 1, frm, siz, rt, cnt, prf, lvs), q), ⟨by dsimp only; omega, by dsimp only; omega, by dsimp only; omega, by dsimp only; omega⟩, rfl⟩
    · exact ⟨((kd, 1000001, frm, siz, rt, cnt, prf, lvs), q), ⟨by dsimp only; omega, by dsimp only; omega, by dsimp only; omega, by dsimp only; omega⟩, rfl⟩
  rintro ⟨⟨kd, ses, frm, siz, rt, cnt, prf, lvs⟩, p0⟩ g0
  dsimp only [msgL] at g0
  refine CutS.intro (H := H_spec_l5Spoilt) ok_H_spec_l5Spoilt (by kernel_rfl) (by kernel_rfl) (fun y : Msg × Int => ⟨[(0, rdP), (3, .x (.o (.p (1, 100) 0 0 1))), (4, .x (.o (.p (1, 101) 0 0 1))), (5, sc (.int .i64 k))], [((0, 0), rdR b y.2), ((0, 1), .row 4 ((y.1).2.2.2.2.2.2.1.map cDigest.enc)), ((0, 2), .row 1 ((y.1).2.2.2.2.2.2.2.map cStr.enc)), ((1, 100), .bx [bxMs y.1 (0, 1) (0, 2)]), ((1, 101), .bx [zBxMs])], 2⟩) (fun y => p ≤ y.2 ∧ y.2 ≤ p + 4 ∧ msgL y.1 10000 10000) ?_ ?_
  · simp only [go_sem, ↓reduceIte, reduceCtorEq, Nat.reduceAdd, Nat.reduceMul, Nat.reduceEqDiff, Nat.reduceSub, Nat.reduceLT, Nat.reduceLeDiff, Nat.reduceAnd, Nat.reduceShiftRight, Nat.reduceBEq, Nat.reduceBNe, Nat.reduceBneDiff, Nat.reduceBeqDiff, Int.reduceToNat, Int.reduceLE, Int.reduceLT, Int.reduceEq]
    refine ite_intro (fun _ => ⟨by omega, fun q g => ?_, fun q g => ?_, fun q g => ?_⟩) fun _ => ⟨((kd, ses, frm, siz, rt, cnt, prf, lvs), p0), ⟨by dsimp only; omega, by dsimp only; omega, by dsimp only; omega, by dsimp only; omega⟩, rfl⟩
    · exact ⟨((kd, ses, (-1), siz, rt, cnt, prf, lvs), q), ⟨by dsimp only; omega, by dsimp only; omega, by dsimp only; omega, by dsimp only; omega⟩, rfl⟩
    · exact ⟨((kd, ses, 1, siz, rt, cnt, prf, lvs), q), ⟨by dsimp only; omega, by dsimp only; omega, by dsimp only; omega, by dsimp only; omega⟩, rfl⟩
    · exact ⟨((kd, ses, 257, siz, rt, cnt, prf, lvs), q), ⟨by dsimp only; omega, by dsimp only; omega, by dsimp only; omega, by dsimp only; omega⟩, rfl⟩
  rintro ⟨⟨kd, ses, frm, siz, rt, cnt, prf, lvs⟩, p0⟩ g0
  dsimp only [msgL] at g0
  refine CutS.intro (H := H_spec_l5Spoilt) ok_H_spec_l5Spoilt (by kernel_rfl) (by kernel_rfl) (fun y : Msg × Int => ⟨[(0, rdP), (3, .x (.o (.p (1, 100) 0 0 1))), (4, .x (.o (.p (1, 101) 0 0 1))), (5, sc (.int .i64 k))], [((0, 0), rdR b y.2), ((0, 1), .row 4 ((y.1).2.2.2.2.2.2.1.map cDigest.enc)), ((0, 2), .row 1 ((y.1).2.2.2.2.2.2.2.map cStr.enc)), ((1, 100), .bx [bxMs y.1 (0, 1) (0, 2)]), ((1, 101), .bx [zBxMs])], 2⟩) (fun y => p ≤ y.2 ∧ y.2 ≤ p + 5 ∧ msgL y.1 10000 10000) ?_ ?_
  · simp only [go_sem, ↓reduceIte, reduceCtorEq, Nat.reduceAdd, Nat.reduceMul, Nat.reduceEqDiff, Nat.reduceSub, Nat.reduceLT, Nat.reduceLeDiff, Nat.reduceAnd, Nat.reduceShiftRight, Nat.reduceBEq, Nat.reduceBNe, Nat.reduceBneDiff, Nat.reduceBeqDiff, Int.reduceToNat, Int.reduceLE, Int.reduceLT, Int.reduceEq]
    refine ite_intro (fun _ => ⟨by omega, fun q g => ?_, fun q g => ?_, fun q g => ?_⟩) fun _ => ⟨((kd, ses, frm, siz, rt, cnt, prf, lvs), p0), ⟨by dsimp only; omega, by dsimp only; omega, by dsimp only; omega, by dsimp only; omega⟩, rfl⟩
    · exact ⟨((kd, ses, frm, (-1), rt, cnt, prf, lvs), q), ⟨by dsimp only; omega, by dsimp only; omega, by dsimp only; omega, by dsimp only; omega⟩, rfl⟩
    · exact ⟨((kd, ses, frm, 1, rt, cnt, prf, lvs), q), ⟨by dsimp only; omega, by dsimp only; omega, by dsimp only; omega, by dsimp only; omega⟩, rfl⟩
    · exact ⟨((kd, ses, frm, 257, rt, cnt, prf, lvs), q), ⟨by dsimp only; omega, by dsimp only; omega, by dsimp only; omega, by dsimp only; omega⟩, rfl⟩
  rintro ⟨⟨kd, ses, frm, siz, rt, cnt, prf, lvs⟩, p0⟩ g0
  dsimp only [msgL] at g0
  refine CutS.intro (H := H_spec_l5Spoilt) ok_H_spec_l5Spoilt (by kernel_rfl) (by kernel_rfl) (fun y : Msg × Int => ⟨[(0, rdP), (3, .x (.o (.p (1, 100) 0 0 1))), (4, .x (.o (.p (1, 101) 0 0 1))), (5, sc (.int .i64 k))], [((0, 0), rdR b y.2), ((0, 1), .row 4 ((y.1).2.2.2.2.2.2.1.map cDigest.enc)), ((0, 2), .row 1 ((y.1).2.2.2.2.2.2.2.map cStr.enc)), ((1, 100), .bx [bxMs y.1 (0, 1) (0, 2)]), ((1, 101), .bx [zBxMs])], 2⟩) (fun y => p ≤ y.2 ∧ y.2 ≤ p + 50 ∧ msgL y.1 10000 10000) ?_ ?_
  · simp only [go_sem, ↓reduceIte, reduceCtorEq, Nat.reduceAdd, Nat.reduceMul, Nat.reduceEqDiff, Nat.reduceSub, Nat.reduceLT, Nat.reduceLeDiff, Nat.reduceAnd, Nat.reduceShiftRight, Nat.reduceBEq, Nat.reduceBNe, Nat.reduceBneDiff, Nat.reduceBeqDiff, Int.reduceToNat, Int.reduceLE, Int.reduceLT, Int.reduceEq]
    exact ite_intro (fun _ => ⟨by omega, fun v q g => ⟨((kd, ses, frm, siz, v, cnt, prf, lvs), q), ⟨by dsimp only; omega, by dsimp only; omega, by dsimp only; omega, by dsimp only; omega⟩, rfl⟩⟩) fun _ => ⟨((kd, ses, frm, siz, rt, cnt, prf, lvs), p0), ⟨by dsimp only; omega, by dsimp only; omega, by dsimp only; omega, by dsimp only; omega⟩, rfl⟩
  rintro ⟨⟨kd, ses, frm, siz, rt, cnt, prf, lvs⟩, p0⟩ g0
  dsimp only [msgL] at g0
  refine CutS.intro (H := H_spec_l5Spoilt) ok_H_spec_l5Spoilt (by kernel_rfl) (by kernel_rfl) (fun y : Msg × Int => ⟨[(0, rdP), (3, .x (.o (.p (1, 100) 0 0 1))), (4, .x (.o (.p (1, 101) 0 0 1))), (5, sc (.int .i64 k))], [((0, 0), rdR b y.2), ((0, 1), .row 4 ((y.1).2.2.2.2.2.2.1.map cDigest.enc)), ((0, 2), .row 1 ((y.1).2.2.2.2.2.2.2.map cStr.enc)), ((1, 100), .bx [bxMs y.1 (0, 1) (0, 2)]), ((1, 101), .bx [zBxMs])], 2⟩) (fun y => p ≤ y.2 ∧ y.2 ≤ p + 51 ∧ msgL y.1 10000 10000) ?_ ?_
  · simp only [go_sem, ↓reduceIte, reduceCtorEq, Nat.reduceAdd, Nat.reduceMul, Nat.reduceEqDiff, Nat.reduceSub, Nat.reduceLT, Nat.reduceLeDiff, Nat.reduceAnd, Nat.reduceShiftRight, Nat.reduceBEq, Nat.reduceBNe, Nat.reduceBneDiff, Nat.reduceBeqDiff, Int.reduceToNat, Int.reduceLE, Int.reduceLT, Int.reduceEq]
    refine ite_intro (fun _ => ⟨by omega, fun q g => ?_, fun q g => ?_, fun q g => ?_, fun q g => ?_⟩) fun _ => ⟨((kd, ses, frm, siz, rt, cnt, prf, lvs), p0), ⟨by dsimp only; omega, by dsimp only; omega, by dsimp only; omega, by dsimp only; omega⟩, rfl⟩
    · exact ⟨((kd, ses, frm, siz, rt, (-1), prf, lvs), q), ⟨by dsimp only; omega, by dsimp only; omega, by dsimp only; omega, by dsimp only; omega⟩, rfl⟩
    · exact ⟨((kd, ses, frm, siz, rt, 0, prf, lvs), q), ⟨by dsimp only; omega, by dsimp only; omega, by dsimp only; omega, by dsimp only; omega⟩, rfl⟩
    · exact ⟨((kd, ses, frm, siz, rt, 1, prf, lvs), q), ⟨by dsimp only; omega, by dsimp only; omega, by dsimp only; omega, by dsimp only; omega⟩, rfl⟩
    · exact ⟨((kd, ses, frm, siz, rt, 9, prf, lvs), q), ⟨by dsimp only; omega, by dsimp only; omega, by dsimp only; omega, by dsimp only; omega⟩, rfl⟩
  rintro ⟨⟨kd, ses, frm, siz, rt, cnt, prf, lvs⟩, p0⟩ g0
  dsimp only [msgL] at g0
  refine CutS.intro (H := H_spec_l5Spoilt) ok_H_spec_l5Spoilt (by kernel_rfl) (by kernel_rfl) (fun y : Msg × Int => ⟨[(0, rdP), (3, .x (.o (.p (1, 100) 0 0 1))), (4, .x (.o (.p (1, 101) 0 0 1))), (5, sc (.int .i64 k))], [((0, 0), rdR b y.2), ((0, 1), .row 4 ((y.1).2.2.2.2.2.2.1.map cDigest.enc)), ((0, 2), .row 1 ((y.1).2.2.2.2.2.2.2.map cStr.enc)), ((1, 100), .bx [bxMs y.1 (0, 1) (0, 2)]), ((1, 101), .bx [zBxMs])], 2⟩) (fun y => p ≤ y.2 ∧ y.2 ≤ p + 52 ∧ msgL y.1 10020 10000) ?_ ?_
  · by_cases hk : k = 6
    case neg =>
      simp only [go_sem, ↓reduceIte, reduceCtorEq, Nat.reduceAdd, Nat.reduceMul, Nat.reduceEqDiff, Nat.reduceSub, Nat.reduceLT, Nat.reduceLeDiff, Nat.reduceAnd, Nat.reduceShiftRight, Nat.reduceBEq, Nat.reduceBNe, Nat.reduceBneDiff, Nat.reduceBeqDiff, Int.reduceToNat, Int.reduceLE, Int.reduceLT, Int.reduceEq, hk]
      exact ⟨((kd, ses, frm, siz, rt, cnt, prf, lvs), p0), ⟨by dsimp only; omega, by dsimp only; omega, by dsimp only; omega, by dsimp only; omega⟩, rfl⟩
    simp only [go_sem, ↓reduceIte, reduceCtorEq, Nat.reduceAdd, Nat.reduceMul, Nat.reduceEqDiff, Nat.reduceSub, Nat.reduceLT, Nat.reduceLeDiff, Nat.reduceAnd, Nat.reduceShiftRight, Nat.reduceBEq, Nat.reduceBNe, Nat.reduceBneDiff, Nat.reduceBeqDiff, Int.reduceToNat, Int.reduceLE, Int.reduceLT, Int.reduceEq, hk]
    refine ⟨by omega, fun v q g => ?_⟩
    have wv : IntKind.i64.wrap (16 + v) = 16 + v := by rw [wrap64] <;> omega
    simp only [wv]
    refine LoopV.go (H := H_spec_l5Spoilt) ok_H_spec_l5Spoilt (by kernel_rfl) (fun y : List Digest => ⟨[(0, rdP), (3, .x (.o (.p (1, 100) 0 0 1))), (4, .x (.o (.p (1, 101) 0 0 1))), (5, sc (.int .i64 6)), (6, sc (.int .i64 (16 + v)))], [((0, 0), rdR b q), ((0, 1), .row 4 (y.map cDigest.enc)), ((0, 2), .row 1 (lvs.map cStr.enc)), ((1, 100), .bx [bxMs ((kd, ses, frm, siz, rt, cnt, y, lvs) : Msg) (0, 1) (0, 2)]), ((1, 101), .bx [zBxMs])], 2⟩) (fun y => 18 - y.length) (fun y => y.length ≤ 10020) ?_ prf (by omega)
    intro y hy
    by_cases h16 : (y.length : Int) < 16 + v
    · simp only [go_sem, ↓reduceIte, reduceCtorEq, Nat.reduceAdd, Nat.reduceMul, Nat.reduceEqDiff, Nat.reduceSub, Nat.reduceLT, Nat.reduceLeDiff, Nat.reduceAnd, Nat.reduceShiftRight, Nat.reduceBEq, Nat.reduceBNe, Nat.reduceBneDiff, Nat.reduceBeqDiff, Int.reduceToNat, Int.reduceLE, Int.reduceLT, Int.reduceEq, h16]
      exact ⟨by omega, y ++ [zDig], by simp; omega, by simp; omega, by rw [List.length_append, List.map_append]; rfl⟩
    · simp only [go_sem, ↓reduceIte, reduceCtorEq, Nat.reduceAdd, Nat.reduceMul, Nat.reduceEqDiff, Nat.reduceSub, Nat.reduceLT, Nat.reduceLeDiff, Nat.reduceAnd, Nat.reduceShiftRight, Nat.reduceBEq, Nat.reduceBNe, Nat.reduceBneDiff, Nat.reduceBeqDiff, Int.reduceToNat, Int.reduceLE, Int.reduceLT, Int.reduceEq, h16]
      exact ⟨((kd, ses, frm, siz, rt, cnt, y, lvs), q), ⟨by dsimp only; omega, by dsimp only; omega, by dsimp only; omega, by dsimp only; omega⟩, rfl⟩
  rintro ⟨⟨kd, ses, frm, siz, rt, cnt, prf, lvs⟩, p0⟩ g0
  dsimp only [msgL] at g0
  refine CutS.intro (H := H_spec_l5Spoilt) ok_H_spec_l5Spoilt (by kernel_rfl) (by kernel_rfl) (fun y : Msg × Int => ⟨[(0, rdP), (3, .x (.o (.p (1, 100) 0 0 1))), (4, .x (.o (.p (1, 101) 0 0 1))), (5, sc (.int .i64 k))], [((0, 0), rdR b y.2), ((0, 1), .row 4 ((y.1).2.2.2.2.2.2.1.map cDigest.enc)), ((0, 2), .row 1 ((y.1).2.2.2.2.2.2.2.map cStr.enc)), ((1, 100), .bx [bxMs y.1 (0, 1) (0, 2)]), ((1, 101), .bx [zBxMs])], 2⟩) (fun y => p ≤ y.2 ∧ y.2 ≤ p + 53 ∧ msgL y.1 10020 10001) ?_ ?_
  · simp only [go_sem, ↓reduceIte, reduceCtorEq, Nat.reduceAdd, Nat.reduceMul, Nat.reduceEqDiff, Nat.reduceSub, Nat.reduceLT, Nat.reduceLeDiff, Nat.reduceAnd, Nat.reduceShiftRight, Nat.reduceBEq, Nat.reduceBNe, Nat.reduceBneDiff, Nat.reduceBeqDiff, Int.reduceToNat, Int.reduceLE, Int.reduceLT, Int.reduceEq]
    refine ite_intro (fun _ => ⟨by omega, fun v q g => ?_⟩) fun _ => ⟨((kd, ses, frm, siz, rt, cnt, prf, lvs), p0), ⟨by dsimp only; omega, by dsimp only; omega, by dsimp only; omega, by dsimp only; omega⟩, rfl⟩
    have wv : IntKind.i64.wrap (40 + v) = 40 + v := by rw [wrap64] <;> omega
    rw [wv]
    exact ⟨by omega, fun t ht => ⟨by omega, ((kd, ses, frm, siz, rt, cnt, prf, lvs ++ [t]), q), ⟨by dsimp only; omega, by dsimp only; omega, by dsimp only; omega, by simp; omega⟩, by rw [List.length_append, List.map_append]; rfl⟩⟩
  rintro ⟨⟨kd, ses, frm, siz, rt, cnt, prf, lvs⟩, p0⟩ g0
  dsimp only [msgL] at g0
  refine CutS.intro (H := H_spec_l5Spoilt) ok_H_spec_l5Spoilt (by kernel_rfl) (by kernel_rfl) (fun y : Msg × Int => ⟨[(3, .x (.o (.p (1, 100) 0 0 1))), (4, .x (.o (.p (1, 101) 0 0 1)))], [((0, 0), rdR b y.2), ((0, 1), .row 4 ((y.1).2.2.2.2.2.2.1.map cDigest.enc)), ((0, 2), .row 1 ((y.1).2.2.2.2.2.2.2.map cStr.enc)), ((1, 100), .bx [bxMs y.1 (0, 1) (0, 2)]), ((1, 101), .bx [zBxMs])], 2⟩) (fun y => p ≤ y.2 ∧ y.2 ≤ p + 54 ∧ msgL y.1 10020 10020) ?_ ?_
  · by_cases hk : k = 8
    case neg =>
      simp only [go_sem, ↓reduceIte, reduceCtorEq, Nat.reduceAdd, Nat.reduceMul, Nat.reduceEqDiff, Nat.reduceSub, Nat.reduceLT, Nat.reduceLeDiff, Nat.reduceAnd, Nat.reduceShiftRight, Nat.reduceBEq, Nat.reduceBNe, Nat.reduceBneDiff, Nat.reduceBeqDiff, Int.reduceToNat, Int.reduceLE, Int.reduceLT, Int.reduceEq, hk]
      exact ⟨((kd, ses, frm, siz, rt, cnt, prf, lvs), p0), ⟨by dsimp only; omega, by dsimp only; omega, by dsimp only; omega, by dsimp only; omega⟩, rfl⟩
    simp only [go_sem, ↓reduceIte, reduceCtorEq, Nat.reduceAdd, Nat.reduceMul, Nat.reduceEqDiff, Nat.reduceSub, Nat.reduceLT, Nat.reduceLeDiff, Nat.reduceAnd, Nat.reduceShiftRight, Nat.reduceBEq, Nat.reduceBNe, Nat.reduceBneDiff, Nat.reduceBeqDiff, Int.reduceToNat, Int.reduceLE, Int.reduceLT, Int.reduceEq, hk]
    refine ⟨by omega, fun v q g => ?_⟩
    have wv : IntKind.i64.wrap (8 + v) = 8 + v := by rw [wrap64] <;> omega
    simp only [wv]
    refine LoopV.go (H := H_spec_l5Spoilt) ok_H_spec_l5Spoilt (by kernel_rfl) (fun y : List ByteArray => ⟨[(3, .x (.o (.p (1, 100) 0 0 1))), (4, .x (.o (.p (1, 101) 0 0 1))), (7, sc (.int .i64 (8 + v)))], [((0, 0), rdR b q), ((0, 1), .row 4 (prf.map cDigest.enc)), ((0, 2), .row 1 (y.map cStr.enc)), ((1, 100), .bx [bxMs ((kd, ses, frm, siz, rt, cnt, prf, y) : Msg) (0, 1) (0, 2)]), ((1, 101), .bx [zBxMs])], 2⟩) (fun y => 18 - y.length) (fun y => y.length ≤ 10020) ?_ lvs (by omega)
    intro y hy
    by_cases h16 : (y.length : Int) < 8 + v
    · simp only [go_sem, ↓reduceIte, reduceCtorEq, Nat.reduceAdd, Nat.reduceMul, Nat.reduceEqDiff, Nat.reduceSub, Nat.reduceLT, Nat.reduceLeDiff, Nat.reduceAnd, Nat.reduceShiftRight, Nat.reduceBEq, Nat.reduceBNe, Nat.reduceBneDiff, Nat.reduceBeqDiff, Int.reduceToNat, Int.reduceLE, Int.reduceLT, Int.reduceEq, h16]
      exact ⟨by omega, y ++ [⟨#[]⟩], by simp; omega, by simp; omega, by rw [List.length_append, List.map_append]; rfl⟩
    · simp only [go_sem, ↓reduceIte, reduceCtorEq, Nat.reduceAdd, Nat.reduceMul, Nat.reduceEqDiff, Nat.reduceSub, Nat.reduceLT, Nat.reduceLeDiff, Nat.reduceAnd, Nat.reduceShiftRight, Nat.reduceBEq, Nat.reduceBNe, Nat.reduceBneDiff, Nat.reduceBeqDiff, Int.reduceToNat, Int.reduceLE, Int.reduceLT, Int.reduceEq, h16]
      exact ⟨((kd, ses, frm, siz, rt, cnt, prf, y), q), ⟨by dsimp only; omega, by dsimp only; omega, by dsimp only; omega, by dsimp only; omega⟩, rfl⟩
  rintro ⟨⟨kd, ses, frm, siz, rt, cnt, prf, lvs⟩, p0⟩ g0
  dsimp only [msgL] at g0
  simp only [go_sem, ↓reduceIte, reduceCtorEq, Nat.reduceAdd, Nat.reduceMul, Nat.reduceEqDiff, Nat.reduceSub, Nat.reduceLT, Nat.reduceLeDiff, Nat.reduceAnd, Nat.reduceShiftRight, Nat.reduceBEq, Nat.reduceBNe, Nat.reduceBneDiff, Nat.reduceBeqDiff, Int.reduceToNat, Int.reduceLE, Int.reduceLT, Int.reduceEq]
  exact ⟨((kd, ses, frm, siz, rt, cnt, prf, lvs), p0), ⟨by dsimp only; omega, by dsimp only; omega, by dsimp only; omega, by dsimp only; omega⟩, rfl, rfl⟩
theorem ok_spec_l5Spoilt : RMsgS.ok Try.prog 50 := RMsgS_ok f_l5Spoilt

abbrev RQuest : FR where
  md := []
  m args rin := match args, rin with
    | [.x (.o (.p (0, 0) 0 0 1)), .x (.o (.c (.v (.int .i64 n))))], [.bx [[.p (0, 1) 0 0 1]], .bx [[.c (.s rows), .c (.v (.int .i64 p))]]] => match mapO cU8.dec rows with
      | some b => some (rows = b.map cU8.enc ∧ 0 ≤ p ∧ p + 1100 ≤ rdM ∧ 0 ≤ n ∧ n ≤ 1000, fun k => ∀ (m : Msg) q, p ≤ q ∧ q ≤ p + 1100 ∧ msgSm m → k (oMsgJ 2 3 m) (some (bxP 1) :: rdM2 b q m))
      | none => none
    | _, _ => none
attribute [go_sem] RQuest
theorem RQuest_ok {P : Program} {g : FuncId} (h : ∀ (b : List UInt8) (p n : Int), 0 ≤ p → p + 1100 ≤ rdM → 0 ≤ n ∧ n ≤ 1000 → ∃ t : Msg × Int, (p ≤ t.2 ∧ t.2 ≤ p + 1100 ∧ msgSm t.1) ∧ VFun P g [rdP, (eInt .i64).enc n] [some (bxP 1), some (rdR b p)] (oMsgJ 2 3 t.1) (some (bxP 1) :: rdM2 b t.2 t.1)) : RQuest.ok P g := by
  intro args rin pre W hm hp k hk
  simp only [RQuest] at hm
  split at hm
  · split at hm
    · cases hm
      obtain ⟨e, h1, h2, h3⟩ := hp
      subst e
      obtain ⟨t, h4, h5⟩ := h _ _ _ h1 h2 h3
      exact ⟨_, _, h5, hk _ _ h4⟩
    · cases hm
  · cases hm

def H_spec_l8Question : Hint := { fs := [], kp := [(0, [0, 1]), (1, [0, 1, 4]), (2, [0, 1, 4, 5]), (3, [0, 4]), (4, [0, 1, 4, 5]), (5, [0, 4]), (6, [0, 1, 4, 5]), (7, [0, 1, 4]), (8, [0, 1, 4, 6]), (9, [0, 1, 4])], an := [(9, [0, 1, 3, 7, 0, 16, 63, 0, 128, 384, 896, 2047, 4095, 8191, 16383])], rs := [(49, RPick), (83, RMsg)], own := true, ow := [(0, 9, 4), (0, 10, 1)] }
attribute [go_sem] H_spec_l8Question
theorem ok_H_spec_l8Question : H_spec_l8Question.ok Try.prog := AllOk.okR .nil (.cons ok_spec_l1Rd_pick (.cons ok_spec_l5Message .nil)) mix
theorem f_l8Question (b : List UInt8) (p n : Int) (h0 : 0 ≤ p) (h1 : p + 1100 ≤ rdM) (hn : 0 ≤ n ∧ n ≤ 1000) : ∃ t : Msg × Int, (p ≤ t.2 ∧ t.2 ≤ p + 1100 ∧ msgSm t.1) ∧ VFun Try.prog 48 [rdP, (eInt .i64).enc n] [some (bxP 1), some (rdR b p)] (oMsgJ 2 3 t.1) (some (bxP 1) :: rdM2 b t.2 t.1) := by
  unfold rdM at h1
  have w1 : IntKind.i64.wrap (n + 1) = n + 1 := by rw [wrap64] <;> omega
  refine VFun_relE (n := 64) (rs := [.cell 4 36]) Try.func48 rfl rfl rfl rfl H_spec_l8Question ok_H_spec_l8Question  (rin := [bxP 1, rdR b p]) (T := Msg × Int) (fun t => oMsgJ 2 3 t.1) (fun t => some (bxP 1) :: rdM2 b t.2 t.1) (fun t => p ≤ t.2 ∧ t.2 ≤ p + 1100 ∧ msgSm t.1) (Nat.le_of_ble_eq_true rfl) (by kernel_rfl) ?_
  simp only [go_sem, ↓reduceIte, reduceCtorEq, Nat.reduceAdd, Nat.reduceMul, Nat.reduceEqDiff, Nat.reduceSub, Nat.reduceLT, Nat.reduceLeDiff, Nat.reduceAnd, Nat.reduceShiftRight, Nat.reduceBEq, Nat.reduceBNe, Nat.reduceBneDiff, Nat.reduceBeqDiff, Int.reduceToNat, Int.reduceLE, Int.reduceLT, Int.reduceEq, w1]
  refine ⟨by omega, ?_⟩; rintro k p0 g0
  refine ite_intro (fun _ => ?_) fun _ => ite_intro (fun _ => ?_) fun _ => ite_intro (fun _ => ?_) fun _ => ?_
  · exact ⟨by omega, fun m q g => ⟨(m, q), ⟨by dsimp only; omega, by dsimp only; omega, g.2.2⟩, rfl, rfl⟩⟩
  · exact ⟨by omega, fun v q g => ⟨((1, _, 0, 0, zDig, 0, [], []), q), ⟨by dsimp only; omega, by dsimp only; omega, by simp, by simp⟩, rfl, rfl⟩⟩
  · refine ⟨by omega, fun v q g => ?_⟩
    have w2 : IntKind.i64.wrap (n - v) = n - v := by rw [wrap64] <;> omega
    have w3 : IntKind.i64.wrap (n - v + 2) = n - v + 2 := by rw [wrap64] <;> omega
    simp only [w2, w3]
    exact ⟨by omega, fun w q2 g2 => ⟨((4, 0, v, _, zDig, 0, [], []), q2), ⟨by dsimp only; omega, by dsimp only; omega, by simp, by simp⟩, rfl, rfl⟩⟩
  · exact ⟨by omega, fun v q g => ⟨by omega, fun w q2 g2 => ⟨((7, 0, v, 0, zDig, _, [], []), q2), ⟨by dsimp only; omega, by dsimp only; omega, by simp, by simp⟩, rfl, rfl⟩⟩⟩
theorem ok_spec_l8Question : RQuest.ok Try.prog 48 := RQuest_ok f_l8Question

abbrev eLM : CE (Log × Msg) := eT2 (CE.st cLog) (CE.st cMsg) (st_x _) (st_x _)
attribute [go_sem] eLM
abbrev lmP (t : Log × Msg) : Prop := t.1.length ≤ 300 ∧ msgL t.2 20000 20000
def H_spec_DrawLogAnswer : Hint := { fs := [(46, Ml2Open)], kp := [(0, [0]), (1, [0, 2, 3]), (2, [2, 3, 4]), (3, [2, 3, 4, 5]), (4, [2, 3, 4, 5, 6]), (5, [2, 3, 4, 5, 6]), (6, [2, 3, 5, 6])], an := [(5, [0, 0, 2, 6, 14, 0, 62, 127, 255]), (6, [0, 0, 1, 7])], rs := [(47, RLog), (48, RQuest), (49, RPick), (50, RMsgS)] }
attribute [go_sem] H_spec_DrawLogAnswer
theorem ok_H_spec_DrawLogAnswer : H_spec_DrawLogAnswer.ok Try.prog := AllOk.okR (.cons ok_spec_l2Open .nil) (.cons ok_spec_l8Log (.cons ok_spec_l8Question (.cons ok_spec_l1Rd_pick (.cons ok_spec_l5Spoilt .nil)))) mix
theorem f_DrawLogAnswer (b : List UInt8) (hb : b.length ≤ 1048576) : ∃ t : Log × Msg, lmP t ∧ VFun Try.prog 17 [(eList cU8).enc b] [] (eLM.enc t) [] := by
  refine VFun_rel (n := 31) (rs := [.cell 2 39, .cell 3 36]) Try.func17 rfl rfl rfl rfl H_spec_DrawLogAnswer ok_H_spec_DrawLogAnswer  (rin := []) (T := Log × Msg) eLM (fun t => t) (fun t => []) lmP (Nat.le_of_ble_eq_true rfl) (by kernel_rfl) ?_
  simp only [go_sem, ↓reduceIte, reduceCtorEq, Nat.reduceAdd, Nat.reduceMul, Nat.reduceEqDiff, Nat.reduceSub, Nat.reduceLT, Nat.reduceLeDiff, Nat.reduceAnd, Nat.reduceShiftRight, Nat.reduceBEq, Nat.reduceBNe, Nat.reduceBneDiff, Nat.reduceBeqDiff, Int.reduceToNat, Int.reduceLE, Int.reduceLT, Int.reduceEq]
  refine ⟨by omega, by omega, fun l p0 g0 => ⟨⟨by omega, by omega, by omega⟩, fun m p1 g1 => ⟨by omega, fun k p2 g2 => ?_⟩⟩⟩
  have hm : msgL m 1000 1000 := g1.2.2
  refine ite_intro (fun _ => ?_) fun _ => ?_
  · exact ⟨⟨by omega, by omega, m, rfl, rfl, rfl, by omega, by omega⟩, fun m2 q3 g3 => ⟨(l, m2), ⟨g0.2.2, by dsimp only; omega, by dsimp only; omega⟩, rfl⟩⟩
  · exact ⟨(l, m), ⟨g0.2.2, by dsimp only; omega, by dsimp only; omega⟩, rfl⟩
abbrev RDrawLA : FR := .dr eLM lmP
attribute [go_sem] RDrawLA
theorem ok_spec_DrawLogAnswer : RDrawLA.ok Try.prog 17 := FR.dr_ok fun b hb => f_DrawLogAnswer b hb

end Go.Proofs.YtfccplibbdnkpaaW.V


