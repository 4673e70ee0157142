/- The law: a log that has grown still proves what it proved. No condition but each theorem's own. -/
import Derived.Test.YtfccplibbdnkpaaFGI
namespace Go.Proofs.YtfccplibbdnkpaaW.V
open Go Go.Proofs
set_option linter.unusedSimpArgs false
set_option linter.unusedVariables false
set_option maxRecDepth 8000
set_option maxHeartbeats 4000000


abbrev bxMsg (m : Msg) : List D := [.c (.v (.int .i64 m.1)), .c (.v (.int .i64 m.2.1)), .c (.v (.int .i64 m.2.2.1)), .c (.v (.int .i64 m.2.2.2.1)),
  .c (.v (.int .u64 m.2.2.2.2.1.1.toNat)), .c (.v (.int .u64 m.2.2.2.2.1.2.1.toNat)), .c (.v (.int .u64 m.2.2.2.2.1.2.2.1.toNat)), .c (.v (.int .u64 m.2.2.2.2.1.2.2.2.toNat)),
  .c (.v (.int .i64 m.2.2.2.2.2.1)), .c (.s (m.2.2.2.2.2.2.1.map cDigest.enc)), .c (.s (m.2.2.2.2.2.2.2.map cStr.enc))]
attribute [go_sem] bxMsg

def H_laws_FnLogLater : Hint := { fs := [(8, OAns), (11, OAns), (18, MAdd), (19, MAdd), (20, MSameMsg)], kp := [(0, [0]), (1, [0]), (2, []), (3, [0]), (4, [3, 4]), (5, [3, 4, 5, 6]), (6, [3, 4, 5, 6, 7, 8]), (7, [4, 5, 6, 7, 8, 10]), (8, []), (9, [4, 5, 6, 7, 8]), (10, []), (11, [4, 5, 7]), (12, [5, 11, 12]), (13, []), (14, [5, 11]), (15, [5, 11]), (16, [5, 11]), (17, [5, 11, 13]), (19, [5, 11, 13]), (20, []), (18, [5, 11, 13]), (21, [5, 11])], an := [(19, [0, 0, 2, 6, 15, 31, 63, 127, 63, 511, 1023, 63, 2111, 63, 14399, 30783, 65535, 131071])], rs := [(17, RDrawLA)], cut := [4, 11, 14] }
attribute [go_sem] H_laws_FnLogLater
theorem ok_H_laws_FnLogLater : H_laws_FnLogLater.ok Try.prog := AllOk.okR (.cons ok_spec_LogAnswer (.cons ok_impl_LogAnswer (.cons ok_impl_LogAdd (.cons ok_spec_LogAdd (.cons ok_laws_sameMessage .nil))))) (.cons ok_spec_DrawLogAnswer .nil) mix
theorem f_FnLogLater (code : List UInt8) (h : code.length ≤ maxLen ∧ ∀ x ∈ code, True) : VFun Try.prog 4 [(eList cU8).enc code] [] (eBool.enc true) [] := by
  obtain ⟨hc, -⟩ := h
  unfold maxLen at hc
  refine VFun_pure (n := 96) (rs := [.tmp 2]) Try.func4 rfl rfl rfl rfl H_laws_FnLogLater ok_H_laws_FnLogLater _ _ (Nat.le_of_ble_eq_true rfl) (by kernel_rfl) ?_
  by_cases hlen : (1048576 : Int) < code.length
  · simp only [go_sem, ↓reduceIte, reduceCtorEq, Nat.reduceAdd, Nat.reduceMul, Nat.reduceEqDiff, Nat.reduceSub, Nat.reduceLT, Nat.reduceLeDiff, Nat.reduceAnd, Nat.reduceShiftRight, Nat.reduceBEq, Nat.reduceBNe, Nat.reduceBneDiff, Nat.reduceBeqDiff, Int.reduceToNat, Int.reduceLE, Int.reduceLT, Int.reduceEq, hlen]
  simp only [go_sem, ↓reduceIte, reduceCtorEq, Nat.reduceAdd, Nat.reduceMul, Nat.reduceEqDiff, Nat.reduceSub, Nat.reduceLT, Nat.reduceLeDiff, Nat.reduceAnd, Nat.reduceShiftRight, Nat.reduceBEq, Nat.reduceBNe, Nat.reduceBneDiff, Nat.reduceBeqDiff, Int.reduceToNat, Int.reduceLE, Int.reduceLT, Int.reduceEq, hlen]
  refine CutS.intro (H := H_laws_FnLogLater) ok_H_laws_FnLogLater (by kernel_rfl) (by kernel_rfl) (fun y : Log × Msg => ⟨[(3, .x (.o (.p (1, 100) 0 0 1))), (4, .x (.o (.p (1, 101) 0 0 1)))], [((1, 100), .bx [[.c (.s (y.1.map cStr.enc))]]), ((1, 101), .bx [bxMsg y.2])], 2⟩) (fun y => lmP y) ?_ ?_
  · simp only [go_sem, ↓reduceIte, reduceCtorEq, Nat.reduceAdd, Nat.reduceMul, Nat.reduceEqDiff, Nat.reduceSub, Nat.reduceLT, Nat.reduceLeDiff, Nat.reduceAnd, Nat.reduceShiftRight, Nat.reduceBEq, Nat.reduceBNe, Nat.reduceBneDiff, Nat.reduceBeqDiff, Int.reduceToNat, Int.reduceLE, Int.reduceLT, Int.reduceEq]
    exact ⟨by omega, fun t ht => ⟨t, ht, rfl⟩⟩
  rintro ⟨l, m⟩ ⟨k1, k2, k3⟩
  dsimp only at k1 k2 k3
  have kA : ansP l m := ⟨by omega, by omega, by omega⟩
  obtain ⟨A, hA⟩ : ∃ A, ansM l m = A := ⟨_, rfl⟩
  obtain ⟨a, ok⟩ := A
  obtain ⟨B, hB⟩ : ∃ B, addM l ⟨#[109, 111, 114, 101]⟩ = B := ⟨_, rfl⟩
  obtain ⟨more, is⟩ := B
  have hb : (is == is) = true := beq_self_eq_true _
  simp only [go_sem, ↓reduceIte, reduceCtorEq, Nat.reduceAdd, Nat.reduceMul, Nat.reduceEqDiff, Nat.reduceSub, Nat.reduceLT, Nat.reduceLeDiff, Nat.reduceAnd, Nat.reduceShiftRight, Nat.reduceBEq, Nat.reduceBNe, Nat.reduceBneDiff, Nat.reduceBeqDiff, Int.reduceToNat, Int.reduceLE, Int.reduceLT, Int.reduceEq, hA, hB, hb]
  refine ⟨kA, by omega, by omega, ?_⟩
  cases is
  case false =>
    refine CutS.intro (H := H_laws_FnLogLater) ok_H_laws_FnLogLater (by kernel_rfl) (by kernel_rfl) (fun _ : Unit => ⟨[], [], 2⟩) (fun _ => False) ?_ ?_
    · simp only [go_sem, ↓reduceIte, reduceCtorEq, Nat.reduceAdd, Nat.reduceMul, Nat.reduceEqDiff, Nat.reduceSub, Nat.reduceLT, Nat.reduceLeDiff, Nat.reduceAnd, Nat.reduceShiftRight, Nat.reduceBEq, Nat.reduceBNe, Nat.reduceBneDiff, Nat.reduceBeqDiff, Int.reduceToNat, Int.reduceLE, Int.reduceLT, Int.reduceEq]
    exact fun _ h => h.elim
  cases ok
  case false =>
    refine CutS.intro (H := H_laws_FnLogLater) ok_H_laws_FnLogLater (by kernel_rfl) (by kernel_rfl) (fun _ : Unit => ⟨[], [], 2⟩) (fun _ => False) ?_ ?_
    · simp only [go_sem, ↓reduceIte, reduceCtorEq, Nat.reduceAdd, Nat.reduceMul, Nat.reduceEqDiff, Nat.reduceSub, Nat.reduceLT, Nat.reduceLeDiff, Nat.reduceAnd, Nat.reduceShiftRight, Nat.reduceBEq, Nat.reduceBNe, Nat.reduceBneDiff, Nat.reduceBeqDiff, Int.reduceToNat, Int.reduceLE, Int.reduceLT, Int.reduceEq]
    exact fun _ h => h.elim
  by_cases h2 : a.1 = 2
  · refine CutS.intro (H := H_laws_FnLogLater) ok_H_laws_FnLogLater (by kernel_rfl) (by kernel_rfl) (fun _ : Unit => ⟨[], [], 2⟩) (fun _ => False) ?_ ?_
    · simp only [go_sem, ↓reduceIte, reduceCtorEq, Nat.reduceAdd, Nat.reduceMul, Nat.reduceEqDiff, Nat.reduceSub, Nat.reduceLT, Nat.reduceLeDiff, Nat.reduceAnd, Nat.reduceShiftRight, Nat.reduceBEq, Nat.reduceBNe, Nat.reduceBneDiff, Nat.reduceBeqDiff, Int.reduceToNat, Int.reduceLE, Int.reduceLT, Int.reduceEq, eq_true h2]
    exact fun _ h => h.elim
  have hk : leavesOk l = true ∧ l.length < 256 := by
    unfold addM at hB
    split at hB
    · split at hB
      · rename_i g1 g2
        exact ⟨g1, g2.1⟩
      · cases hB
    · cases hB
  have hm : more = l ++ [⟨#[109, 111, 114, 101]⟩] := by
    unfold addM at hB
    rw [if_pos hk.1, if_pos ⟨hk.2, by decide⟩] at hB
    cases hB
    rfl
  have key := ans_more (m := m) (x := ⟨#[109, 111, 114, 101]⟩) hk.2 (by decide) hk.1 (by rw [hA]) (by rw [hA]; exact h2)
  rw [← hm, hA] at key
  have hl : more.length ≤ 300 := by rw [hm, List.length_append, List.length_singleton]; omega
  obtain ⟨l1, l2⟩ := ansM_len (l := l) (m := m)
  obtain ⟨m1, m2⟩ := ansM_len (l := more) (m := m)
  rw [hA] at l1 l2
  obtain ⟨D, hD⟩ : ∃ D, ansM more m = D := ⟨_, rfl⟩
  obtain ⟨d, too⟩ := D
  rw [hD] at key m1 m2
  dsimp only at key m1 m2 l1 l2
  have kB : ansP more m := ⟨by omega, by omega, by omega⟩
  obtain rfl : too = true := key.elim (fun h => (Prod.ext_iff.1 h.2).2) fun h => h.2.1
  refine CutS.intro (H := H_laws_FnLogLater) ok_H_laws_FnLogLater (by kernel_rfl) (by kernel_rfl) (fun _ : Unit => ⟨[(4, .x (.o (.p (1, 100) 0 0 1))), (5, .x (.o (.p (1, 101) 0 0 1))), (7, .x (.o (.p (1, 104) 0 0 1)))], [((1, 100), .bx [bxMsg m]), ((1, 101), .bx [bxMs a (1, 102) (1, 103)]), ((1, 102), .row 4 (a.2.2.2.2.2.2.1.map cDigest.enc)), ((1, 103), .row 1 (a.2.2.2.2.2.2.2.map cStr.enc)), ((1, 104), .bx [[.c (.s (more.map cStr.enc))]])], 2⟩) (fun _ => True) ?_ ?_
  · simp only [go_sem, ↓reduceIte, reduceCtorEq, Nat.reduceAdd, Nat.reduceMul, Nat.reduceEqDiff, Nat.reduceSub, Nat.reduceLT, Nat.reduceLeDiff, Nat.reduceAnd, Nat.reduceShiftRight, Nat.reduceBEq, Nat.reduceBNe, Nat.reduceBneDiff, Nat.reduceBeqDiff, Int.reduceToNat, Int.reduceLE, Int.reduceLT, Int.reduceEq, h2]
    exact ⟨(), trivial⟩
  rintro _ _
  simp only [go_sem, ↓reduceIte, reduceCtorEq, Nat.reduceAdd, Nat.reduceMul, Nat.reduceEqDiff, Nat.reduceSub, Nat.reduceLT, Nat.reduceLeDiff, Nat.reduceAnd, Nat.reduceShiftRight, Nat.reduceBEq, Nat.reduceBNe, Nat.reduceBneDiff, Nat.reduceBeqDiff, Int.reduceToNat, Int.reduceLE, Int.reduceLT, Int.reduceEq, hD]
  refine ⟨kB, ?_⟩
  refine CutS.intro (H := H_laws_FnLogLater) ok_H_laws_FnLogLater (by kernel_rfl) (by kernel_rfl) (fun _ : Unit => ⟨[(5, .x (.o (.p (1, 100) 0 0 1))), (11, .x (.o (.p (1, 103) 0 0 1)))], [((1, 100), .bx [bxMs a (1, 101) (1, 102)]), ((1, 101), .row 4 (a.2.2.2.2.2.2.1.map cDigest.enc)), ((1, 102), .row 1 (a.2.2.2.2.2.2.2.map cStr.enc)), ((1, 103), .bx [bxMs d (1, 104) (1, 105)]), ((1, 104), .row 4 (d.2.2.2.2.2.2.1.map cDigest.enc)), ((1, 105), .row 1 (d.2.2.2.2.2.2.2.map cStr.enc))], 2⟩) (fun _ => True) ?_ ?_
  · simp only [go_sem, ↓reduceIte, reduceCtorEq, Nat.reduceAdd, Nat.reduceMul, Nat.reduceEqDiff, Nat.reduceSub, Nat.reduceLT, Nat.reduceLeDiff, Nat.reduceAnd, Nat.reduceShiftRight, Nat.reduceBEq, Nat.reduceBNe, Nat.reduceBneDiff, Nat.reduceBeqDiff, Int.reduceToNat, Int.reduceLE, Int.reduceLT, Int.reduceEq]
    exact ⟨(), trivial⟩
  rintro _ _
  rcases key with ⟨e5, e⟩ | ⟨e8, -, e3, el⟩
  · obtain rfl : d = a := (Prod.ext_iff.1 e).1
    simp only [go_sem, ↓reduceIte, reduceCtorEq, Nat.reduceAdd, Nat.reduceMul, Nat.reduceEqDiff, Nat.reduceSub, Nat.reduceLT, Nat.reduceLeDiff, Nat.reduceAnd, Nat.reduceShiftRight, Nat.reduceBEq, Nat.reduceBNe, Nat.reduceBneDiff, Nat.reduceBeqDiff, Int.reduceToNat, Int.reduceLE, Int.reduceLT, Int.reduceEq, eq_true e5]
    exact ⟨by omega, by omega⟩
  have n5 : (a.1 = 5) = False := eq_false (by omega)
  simp only [go_sem, ↓reduceIte, reduceCtorEq, Nat.reduceAdd, Nat.reduceMul, Nat.reduceEqDiff, Nat.reduceSub, Nat.reduceLT, Nat.reduceLeDiff, Nat.reduceAnd, Nat.reduceShiftRight, Nat.reduceBEq, Nat.reduceBNe, Nat.reduceBneDiff, Nat.reduceBeqDiff, Int.reduceToNat, Int.reduceLE, Int.reduceLT, Int.reduceEq, n5]
  refine LoopV.go (H := H_laws_FnLogLater) ok_H_laws_FnLogLater (by kernel_rfl) (fun i : Nat => ⟨[(5, .x (.o (.p (1, 100) 0 0 1))), (11, .x (.o (.p (1, 103) 0 0 1))), (13, sc (.int .i64 i))], [((1, 100), .bx [bxMs a (1, 101) (1, 102)]), ((1, 101), .row 4 (a.2.2.2.2.2.2.1.map cDigest.enc)), ((1, 102), .row 1 (a.2.2.2.2.2.2.2.map cStr.enc)), ((1, 103), .bx [bxMs d (1, 104) (1, 105)]), ((1, 104), .row 4 (d.2.2.2.2.2.2.1.map cDigest.enc)), ((1, 105), .row 1 (d.2.2.2.2.2.2.2.map cStr.enc))], 2⟩) (fun i => a.2.2.2.2.2.2.2.length - i) (fun i => i ≤ a.2.2.2.2.2.2.2.length) ?_ 0 (Nat.zero_le _)
  intro i hi
  have w1 : IntKind.i64.wrap ((i : Int) + 1) = ((i + 1 : Nat) : Int) := by rw [wrap64] <;> omega
  by_cases hlt : i < a.2.2.2.2.2.2.2.length
  · have c1 : ((i : Int) < (a.2.2.2.2.2.2.2.length : Int)) = True := eq_true (by omega)
    have hx : a.2.2.2.2.2.2.2[i]? = some (a.2.2.2.2.2.2.2[i]'hlt) := List.getElem?_eq_getElem hlt
    have hy := el i _ hx
    obtain ⟨x, hxx⟩ : ∃ x, a.2.2.2.2.2.2.2[i]'hlt = x := ⟨_, rfl⟩
    rw [hxx] at hx hy
    have hlt2 := (List.getElem?_eq_some_iff.1 hy).1
    have c2 : ((d.2.2.2.2.2.2.2.length : Int) ≤ (i : Int)) = False := eq_false (by omega)
    simp only [go_sem, ↓reduceIte, reduceCtorEq, Nat.reduceAdd, Nat.reduceMul, Nat.reduceEqDiff, Nat.reduceSub, Nat.reduceLT, Nat.reduceLeDiff, Nat.reduceAnd, Nat.reduceShiftRight, Nat.reduceBEq, Nat.reduceBNe, Nat.reduceBneDiff, Nat.reduceBeqDiff, Int.reduceToNat, Int.reduceLE, Int.reduceLT, Int.reduceEq, c1, c2, w1, hx, hy, eq_true hlt, eq_true hlt2]
    exact ⟨i + 1, by omega, by omega, rfl⟩
  · have c1 : ((i : Int) < (a.2.2.2.2.2.2.2.length : Int)) = False := eq_false (by omega)
    simp only [go_sem, ↓reduceIte, reduceCtorEq, Nat.reduceAdd, Nat.reduceMul, Nat.reduceEqDiff, Nat.reduceSub, Nat.reduceLT, Nat.reduceLeDiff, Nat.reduceAnd, Nat.reduceShiftRight, Nat.reduceBEq, Nat.reduceBNe, Nat.reduceBneDiff, Nat.reduceBeqDiff, Int.reduceToNat, Int.reduceLE, Int.reduceLT, Int.reduceEq, c1, e3]

end Go.Proofs.YtfccplibbdnkpaaW.V

