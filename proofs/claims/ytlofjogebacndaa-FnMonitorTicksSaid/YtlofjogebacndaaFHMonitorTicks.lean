/- The law: the monitor asks for just what it lacks. No condition but each theorem's own. -/
import Derived.Test.YtlofjogebacndaaFWH
namespace Go.Proofs.YtlofjogebacndaaW.V
open Go Go.Proofs
set_option linter.unusedSimpArgs false
set_option linter.unusedVariables false
set_option maxRecDepth 8000
set_option maxHeartbeats 4000000


abbrev bxW (w : Watched) (a b c : Nm) : List D := ccC w.1.1 a ++ (.h b 0 w.1.2.1.length w.1.2.1.length :: ccP w.1.2.2) ++ [.h c 0 w.2.1.length w.2.1.length, .c (.v (.slice none 0 0)), .c (.v (.slice none 0 0)), .c (.v (.slice none 0 0))]
abbrev stW (m : Monitor) (w : Watched) (me : Int) : LS := ⟨[(3, .x (.o (.p (1, 100) 0 0 1))), (4, sc (.int .i64 me)), (5, .x (.o (.p (1, 101) 0 0 1)))], [((1, 100), .bx [bxClient m.1 ++ .c (.s (m.2.1.map cStr.enc)) :: ccP m.2.2]), ((1, 101), .bx [bxW w (1, 102) (1, 103) (1, 104)]), ((1, 102), .row 1 (w.1.1.2.2.2.2.2.1.map (cInt .i64).enc)), ((1, 103), .row 1 (w.1.2.1.map cStr.enc)), ((1, 104), .row 3 (w.2.1.map cLetter.enc))], 2⟩
abbrev stW2 (m : Monitor) (w : Watched) : LS := ⟨[(3, .x (.o (.p (1, 100) 0 0 1))), (5, .x (.o (.p (1, 101) 0 0 1)))], [((1, 100), .bx [bxClient m.1 ++ .c (.s (m.2.1.map cStr.enc)) :: ccP m.2.2]), ((1, 101), .bx [bxW w (1, 102) (1, 103) (1, 104)]), ((1, 102), .row 1 (w.1.1.2.2.2.2.2.1.map (cInt .i64).enc)), ((1, 103), .row 1 (w.1.2.1.map cStr.enc)), ((1, 104), .row 3 (w.2.1.map cLetter.enc))], 2⟩
attribute [go_sem] bxW stW stW2

def H_laws_FnMonitorTicks : Hint := { fs := [(7, MMonOk), (14, OClTick), (21, OMonTick), (22, OMonTick), (23, MSameClient), (24, MReadF)], kp := [(0, [0]), (1, [0]), (2, []), (3, [0]), (4, [3, 4]), (5, [3, 4, 5]), (6, []), (7, [3, 4, 5]), (8, [5]), (9, [3, 4, 5]), (10, [3, 4, 5]), (11, [5, 6]), (12, [3, 5]), (13, [3, 5, 7, 8]), (14, [3, 5, 7, 8, 9])], an := [(5, [0, 1, 3, 0, 0, 24, 56, 120, 255]), (11, [0, 1, 0, 4, 12, 31, 63, 127, 255, 511, 127, 1151, 3199, 8191, 16383, 32767, 65535, 131071, 262143, 524287, 1048575, 2097151, 4194303, 8388607, 16777215, 2097151, 35651583, 102760447, 236978175, 536870911, 1073741823, 2147483647, 4294967295])], rs := [(20, RDrawMT)], cut := [4, 9, 12] }
attribute [go_sem] H_laws_FnMonitorTicks
theorem ok_H_laws_FnMonitorTicks : H_laws_FnMonitorTicks.ok Try.prog := AllOk.okR (.cons ok_spec_MonitorOk (.cons ok_impl_ClientTick (.cons ok_impl_MonitorTick (.cons ok_spec_MonitorTick (.cons ok_laws_sameClient (.cons ok_spec_WireRead .nil)))))) (.cons ok_spec_DrawMonitorTick .nil) mix
theorem f_FnMonitorTicks (code : List UInt8) (h : code.length ≤ maxLen ∧ ∀ x ∈ code, True) : VFun Try.prog 5 [(eList cU8).enc code] [] (eBool.enc true) [] := by
  obtain ⟨hc, -⟩ := h
  unfold maxLen at hc
  refine VFun_pure (n := 149) (rs := [.tmp 2]) Try.func5 rfl rfl rfl rfl H_laws_FnMonitorTicks ok_H_laws_FnMonitorTicks _ _ (Nat.le_of_ble_eq_true rfl) (by kernel_rfl) ?_
  by_cases hlen : (1048576 : Int) < code.length
  · simp only [go_sem, ↓reduceIte, reduceCtorEq, Nat.reduceAdd, Nat.reduceMul, Nat.reduceEqDiff, Nat.reduceSub, Nat.reduceLT, Nat.reduceLeDiff, Nat.reduceAnd, Nat.reduceShiftRight, Nat.reduceBEq, Nat.reduceBNe, Nat.reduceBneDiff, Nat.reduceBeqDiff, Int.reduceToNat, Int.reduceLE, Int.reduceLT, Int.reduceEq, hlen]
  simp only [go_sem, ↓reduceIte, reduceCtorEq, Nat.reduceAdd, Nat.reduceMul, Nat.reduceEqDiff, Nat.reduceSub, Nat.reduceLT, Nat.reduceLeDiff, Nat.reduceAnd, Nat.reduceShiftRight, Nat.reduceBEq, Nat.reduceBNe, Nat.reduceBneDiff, Nat.reduceBeqDiff, Int.reduceToNat, Int.reduceLE, Int.reduceLT, Int.reduceEq, hlen]
  refine CutS.intro (H := H_laws_FnMonitorTicks) ok_H_laws_FnMonitorTicks (by kernel_rfl) (by kernel_rfl) (fun y : Monitor × Int => ⟨[(3, .x (.o (.p (1, 100) 0 0 1))), (4, sc (.int .i64 y.2))], [((1, 100), .bx [bxClient y.1.1 ++ .c (.s (y.1.2.1.map cStr.enc)) :: ccP y.1.2.2])], 2⟩) (fun y => monMeP y) ?_ ?_
  · simp only [go_sem, ↓reduceIte, reduceCtorEq, Nat.reduceAdd, Nat.reduceMul, Nat.reduceEqDiff, Nat.reduceSub, Nat.reduceLT, Nat.reduceLeDiff, Nat.reduceAnd, Nat.reduceShiftRight, Nat.reduceBEq, Nat.reduceBNe, Nat.reduceBneDiff, Nat.reduceBeqDiff, Int.reduceToNat, Int.reduceLE, Int.reduceLT, Int.reduceEq]
    exact ⟨by omega, fun t ht => ⟨t, ht, rfl⟩⟩
  rintro ⟨m, me⟩ ⟨k1, k2, k3⟩
  dsimp only at k1 k2 k3
  by_cases hm : monM m = true
  case neg =>
    have hM := monTickM_no m (me := me) fun h => hm h.1
    have hm' : monM m = false := by simpa using hm
    simp only [go_sem, ↓reduceIte, reduceCtorEq, Nat.reduceAdd, Nat.reduceMul, Nat.reduceEqDiff, Nat.reduceSub, Nat.reduceLT, Nat.reduceLeDiff, Nat.reduceAnd, Nat.reduceShiftRight, Nat.reduceBEq, Nat.reduceBNe, Nat.reduceBneDiff, Nat.reduceBeqDiff, Int.reduceToNat, Int.reduceLE, Int.reduceLT, Int.reduceEq, hM]
    refine ⟨⟨k1, k2⟩, ⟨k1, k2⟩, ?_⟩
    refine CutS.intro (H := H_laws_FnMonitorTicks) ok_H_laws_FnMonitorTicks (by kernel_rfl) (by kernel_rfl) (fun _ : Unit => stW m zWatched me) (fun _ => False) ?_ ?_
    · simp only [go_sem, ↓reduceIte, reduceCtorEq, Nat.reduceAdd, Nat.reduceMul, Nat.reduceEqDiff, Nat.reduceSub, Nat.reduceLT, Nat.reduceLeDiff, Nat.reduceAnd, Nat.reduceShiftRight, Nat.reduceBEq, Nat.reduceBNe, Nat.reduceBneDiff, Nat.reduceBeqDiff, Int.reduceToNat, Int.reduceLE, Int.reduceLT, Int.reduceEq, hm']
      exact ⟨k1, k2⟩
    exact fun _ h => h.elim
  obtain ⟨g1, g2, g3, g4, g5⟩ := monM_lack hm
  have w1 : IntKind.i64.wrap (m.1.2.2.2.2.2.2.1 - m.2.1.length) = lackM m := by rw [wrap64] <;> first | rfl | (unfold lackM at *; omega)
  rcases k3 with rfl | rfl
  · have hM := monTickM_no m (me := 0) fun h => absurd h.2.1 (by omega)
    simp only [go_sem, ↓reduceIte, reduceCtorEq, Nat.reduceAdd, Nat.reduceMul, Nat.reduceEqDiff, Nat.reduceSub, Nat.reduceLT, Nat.reduceLeDiff, Nat.reduceAnd, Nat.reduceShiftRight, Nat.reduceBEq, Nat.reduceBNe, Nat.reduceBneDiff, Nat.reduceBeqDiff, Int.reduceToNat, Int.reduceLE, Int.reduceLT, Int.reduceEq, hM]
    refine ⟨⟨k1, k2⟩, ⟨k1, k2⟩, ?_⟩
    refine CutS.intro (H := H_laws_FnMonitorTicks) ok_H_laws_FnMonitorTicks (by kernel_rfl) (by kernel_rfl) (fun _ : Unit => stW m zWatched 0) (fun _ => False) ?_ ?_
    · simp only [go_sem, ↓reduceIte, reduceCtorEq, Nat.reduceAdd, Nat.reduceMul, Nat.reduceEqDiff, Nat.reduceSub, Nat.reduceLT, Nat.reduceLeDiff, Nat.reduceAnd, Nat.reduceShiftRight, Nat.reduceBEq, Nat.reduceBNe, Nat.reduceBneDiff, Nat.reduceBeqDiff, Int.reduceToNat, Int.reduceLE, Int.reduceLT, Int.reduceEq, hm]
      exact ⟨k1, k2⟩
    exact fun _ h => h.elim
  by_cases hl : lackM m = 0
  · have hM := monTickM_end (m := m) (me := 9) ⟨hm, by omega⟩ hl
    have c1 : ((m.2.1.length : Int) = m.1.2.2.2.2.2.2.1) = True := eq_true (by unfold lackM at hl; omega)
    by_cases hs : m.1.2.2.1 = 1000000
    · have hC := clTickM_end (c := m.1) (me := 9) ⟨g1, by omega⟩ hs
      rw [hC] at hM
      simp only [go_sem, ↓reduceIte, reduceCtorEq, Nat.reduceAdd, Nat.reduceMul, Nat.reduceEqDiff, Nat.reduceSub, Nat.reduceLT, Nat.reduceLeDiff, Nat.reduceAnd, Nat.reduceShiftRight, Nat.reduceBEq, Nat.reduceBNe, Nat.reduceBneDiff, Nat.reduceBeqDiff, Int.reduceToNat, Int.reduceLE, Int.reduceLT, Int.reduceEq, hM]
      refine ⟨⟨k1, k2⟩, ⟨k1, k2⟩, ?_⟩
      refine CutS.intro (H := H_laws_FnMonitorTicks) ok_H_laws_FnMonitorTicks (by kernel_rfl) (by kernel_rfl) (fun _ : Unit => stW m ((m.1, m.2.1, m.2.2), [], [], [], []) 9) (fun _ => True) ?_ ?_
      · simp only [go_sem, ↓reduceIte, reduceCtorEq, Nat.reduceAdd, Nat.reduceMul, Nat.reduceEqDiff, Nat.reduceSub, Nat.reduceLT, Nat.reduceLeDiff, Nat.reduceAnd, Nat.reduceShiftRight, Nat.reduceBEq, Nat.reduceBNe, Nat.reduceBneDiff, Nat.reduceBeqDiff, Int.reduceToNat, Int.reduceLE, Int.reduceLT, Int.reduceEq, hm]
        exact ⟨⟨k1, k2⟩, (), trivial⟩
      rintro _ _
      refine CutS.intro (H := H_laws_FnMonitorTicks) ok_H_laws_FnMonitorTicks (by kernel_rfl) (by kernel_rfl) (fun _ : Unit => stW2 m zWatched) (fun _ => False) ?_ ?_
      · simp only [go_sem, ↓reduceIte, reduceCtorEq, Nat.reduceAdd, Nat.reduceMul, Nat.reduceEqDiff, Nat.reduceSub, Nat.reduceLT, Nat.reduceLeDiff, Nat.reduceAnd, Nat.reduceShiftRight, Nat.reduceBEq, Nat.reduceBNe, Nat.reduceBneDiff, Nat.reduceBeqDiff, Int.reduceToNat, Int.reduceLE, Int.reduceLT, Int.reduceEq, hC, c1]
        exact ⟨k1, by omega⟩
      exact fun _ h => h.elim
    · have hC := clTickM_go (c := m.1) (me := 9) ⟨g1, by omega⟩ hs
      obtain ⟨cc, x, hx, hC'⟩ : ∃ cc x, cc.2.2.2.2.2.1.length = 0 ∧ clTickM m.1 9 = (cc, [x], [], []) := ⟨_, _, rfl, hC⟩
      rw [hC'] at hM
      simp only [go_sem, ↓reduceIte, reduceCtorEq, Nat.reduceAdd, Nat.reduceMul, Nat.reduceEqDiff, Nat.reduceSub, Nat.reduceLT, Nat.reduceLeDiff, Nat.reduceAnd, Nat.reduceShiftRight, Nat.reduceBEq, Nat.reduceBNe, Nat.reduceBneDiff, Nat.reduceBeqDiff, Int.reduceToNat, Int.reduceLE, Int.reduceLT, Int.reduceEq, hM]
      refine ⟨⟨k1, k2⟩, ⟨k1, k2⟩, ?_⟩
      refine CutS.intro (H := H_laws_FnMonitorTicks) ok_H_laws_FnMonitorTicks (by kernel_rfl) (by kernel_rfl) (fun _ : Unit => stW m ((cc, m.2.1, m.2.2), [x], [], [], []) 9) (fun _ => True) ?_ ?_
      · simp only [go_sem, ↓reduceIte, reduceCtorEq, Nat.reduceAdd, Nat.reduceMul, Nat.reduceEqDiff, Nat.reduceSub, Nat.reduceLT, Nat.reduceLeDiff, Nat.reduceAnd, Nat.reduceShiftRight, Nat.reduceBEq, Nat.reduceBNe, Nat.reduceBneDiff, Nat.reduceBeqDiff, Int.reduceToNat, Int.reduceLE, Int.reduceLT, Int.reduceEq, hm]
        exact ⟨⟨k1, k2⟩, (), trivial⟩
      rintro _ _
      refine CutS.intro (H := H_laws_FnMonitorTicks) ok_H_laws_FnMonitorTicks (by kernel_rfl) (by kernel_rfl) (fun _ : Unit => stW2 m zWatched) (fun _ => False) ?_ ?_
      · simp only [go_sem, ↓reduceIte, reduceCtorEq, Nat.reduceAdd, Nat.reduceMul, Nat.reduceEqDiff, Nat.reduceSub, Nat.reduceLT, Nat.reduceLeDiff, Nat.reduceAnd, Nat.reduceShiftRight, Nat.reduceBEq, Nat.reduceBNe, Nat.reduceBneDiff, Nat.reduceBeqDiff, Int.reduceToNat, Int.reduceLE, Int.reduceLT, Int.reduceEq, hC', c1]
        exact ⟨k1, by omega, ite_intro (fun _ => trivial) fun _ => trivial⟩
      exact fun _ h => h.elim
  · have hM := monTickM_go (m := m) (me := 9) ⟨hm, by omega⟩ hl
    have c1 : ((m.2.1.length : Int) = m.1.2.2.2.2.2.2.1) = False := eq_false (by unfold lackM at hl; omega)
    obtain ⟨c, d1, d2, d3, d4⟩ : ∃ c : Nat, 1 ≤ c ∧ c ≤ 8 ∧ (if 8 < lackM m then 8 else lackM m) = (c : Int) ∧ ((c : Int) = lackM m ∨ (c : Int) = 8 ∧ (c : Int) < lackM m) := by
      by_cases h8 : 8 < lackM m
      · exact ⟨8, by omega, by omega, by rw [if_pos h8]; rfl, .inr ⟨rfl, by omega⟩⟩
      · obtain ⟨c, hc⟩ := Int.eq_ofNat_of_zero_le g3
        exact ⟨c, by omega, by omega, by rw [if_neg h8]; exact hc, .inl hc.symm⟩
    obtain ⟨S, hS, hz, hx, q1, q2, q3⟩ := tick_f g2 d2
    rw [d3, hS] at hM
    simp only [go_sem, ↓reduceIte, reduceCtorEq, Nat.reduceAdd, Nat.reduceMul, Nat.reduceEqDiff, Nat.reduceSub, Nat.reduceLT, Nat.reduceLeDiff, Nat.reduceAnd, Nat.reduceShiftRight, Nat.reduceBEq, Nat.reduceBNe, Nat.reduceBneDiff, Nat.reduceBeqDiff, Int.reduceToNat, Int.reduceLE, Int.reduceLT, Int.reduceEq, hM]
    refine ⟨⟨k1, k2⟩, ⟨k1, k2⟩, ?_⟩
    refine CutS.intro (H := H_laws_FnMonitorTicks) ok_H_laws_FnMonitorTicks (by kernel_rfl) (by kernel_rfl) (fun _ : Unit => stW m (m, [(9, 0, S)], [], [], []) 9) (fun _ => True) ?_ ?_
    · simp only [go_sem, ↓reduceIte, reduceCtorEq, Nat.reduceAdd, Nat.reduceMul, Nat.reduceEqDiff, Nat.reduceSub, Nat.reduceLT, Nat.reduceLeDiff, Nat.reduceAnd, Nat.reduceShiftRight, Nat.reduceBEq, Nat.reduceBNe, Nat.reduceBneDiff, Nat.reduceBeqDiff, Int.reduceToNat, Int.reduceLE, Int.reduceLT, Int.reduceEq, hm]
      exact ⟨⟨k1, k2⟩, (), trivial⟩
    rintro _ _
    refine CutS.intro (H := H_laws_FnMonitorTicks) ok_H_laws_FnMonitorTicks (by kernel_rfl) (by kernel_rfl) (fun _ : Unit => stW2 m (m, [(9, 0, S)], [], [], [])) (fun _ => True) ?_ ?_
    · simp only [go_sem, ↓reduceIte, reduceCtorEq, Nat.reduceAdd, Nat.reduceMul, Nat.reduceEqDiff, Nat.reduceSub, Nat.reduceLT, Nat.reduceLeDiff, Nat.reduceAnd, Nat.reduceShiftRight, Nat.reduceBEq, Nat.reduceBNe, Nat.reduceBneDiff, Nat.reduceBeqDiff, Int.reduceToNat, Int.reduceLE, Int.reduceLT, Int.reduceEq, c1]
      exact ⟨(), trivial⟩
    rintro _ _
    simp only [go_sem, ↓reduceIte, reduceCtorEq, Nat.reduceAdd, Nat.reduceMul, Nat.reduceEqDiff, Nat.reduceSub, Nat.reduceLT, Nat.reduceLeDiff, Nat.reduceAnd, Nat.reduceShiftRight, Nat.reduceBEq, Nat.reduceBNe, Nat.reduceBneDiff, Nat.reduceBeqDiff, Int.reduceToNat, Int.reduceLE, Int.reduceLT, Int.reduceEq, w1, q2, q3]
    have h11 : ((1 : Nat) : Int) = 1 := rfl
    refine ⟨⟨_, _, hS.symm, g2, d1, d2⟩, ?_⟩
    rw [if_pos h11]
    rcases d4 with d4 | ⟨d4, d5⟩
    · rw [if_neg (by omega)]
      omega
    · rw [if_pos (by omega), if_pos d4, if_pos d5]
      omega

end Go.Proofs.YtlofjogebacndaaW.V

