/- Functions: ticks of a client. No condition but each theorem's own. -/
import Derived.Test.YtlofjogebacndaaFWD
namespace Go.Proofs.YtlofjogebacndaaW.V
open Go Go.Proofs
set_option linter.unusedSimpArgs false
set_option linter.unusedVariables false
set_option maxRecDepth 8000
set_option maxHeartbeats 4000000

set_option synthInstance.maxSize 1000

abbrev aMsg (s : Int) : Msg := (1, s, 0, 0, (0, 0, 0, 0), 0, [], [])
/-- What a tick of a client says. -/
def clTickM (c : Client) (me : Int) : Told := if clientM c = true ∧ (1 ≤ me ∧ me ≤ 20) then (if c.2.2.1 = 1000000 then (c, [], [], []) else ((c.1, c.2.1, c.2.2.1 + 1, 1, zPoint, [], c.2.2.2.2.2.2), [(me, 0, tickB (aMsg (c.2.2.1 + 1)))], [], [])) else ((0, 0, 0, 0, zPoint, [], zPoint), [], [], [])
theorem clientM_ses {c : Client} (h : clientM c = true) : 0 ≤ c.2.2.1 ∧ c.2.2.1 ≤ 1000000 := by
  have : headOk c := by
    by_cases h1 : headOk c
    · exact h1
    · rw [clientM_no h1] at h; cases h
  exact this.2.2.2.1
theorem tick_aMsg {s : Int} (h : 0 ≤ s ∧ s < 1000000) : tickMsg (aMsg (s + 1)) := by
  obtain ⟨n, rfl⟩ := Int.eq_ofNat_of_zero_le h.1
  exact .inl ⟨n + 1, by omega, by omega, rfl⟩
theorem clTickM_no (c : Client) {me : Int} (h : ¬ (clientM c = true ∧ (1 ≤ me ∧ me ≤ 20))) : clTickM c me = ((0, 0, 0, 0, zPoint, [], zPoint), [], [], []) := if_neg h
theorem clTickM_end {c : Client} {me : Int} (h : clientM c = true ∧ (1 ≤ me ∧ me ≤ 20)) (h2 : c.2.2.1 = 1000000) : clTickM c me = (c, [], [], []) := by
  rw [clTickM, if_pos h, if_pos h2]
theorem clTickM_go {c : Client} {me : Int} (h : clientM c = true ∧ (1 ≤ me ∧ me ≤ 20)) (h2 : ¬ c.2.2.1 = 1000000) : clTickM c me = ((c.1, c.2.1, c.2.2.1 + 1, 1, zPoint, [], c.2.2.2.2.2.2), [(me, 0, tickB (aMsg (c.2.2.1 + 1)))], [], []) := by
  rw [clTickM, if_pos h, if_neg h2]

def H_spec_l10Node : Hint := { fs := [(28, M166)], kp := [(0, [0]), (1, [0])], an := [] }
attribute [go_sem] H_spec_l10Node
theorem ok_H_spec_l10Node : H_spec_l10Node.ok Try.prog := AllOk.okR (.cons m166 .nil) .nil mix
theorem f_l10Node (n : Int) : VFun Try.prog 39 [(eInt .i64).enc n] [] (eBool.enc (decide (1 ≤ n ∧ n ≤ 20))) [] := by
  refine VFun_pure (n := 5) (rs := [.tmp 2]) Try.func39 rfl rfl rfl rfl H_spec_l10Node ok_H_spec_l10Node _ _ (Nat.le_of_ble_eq_true rfl) (by kernel_rfl) ?_
  simp only [go_sem, ↓reduceIte, reduceCtorEq, Nat.reduceAdd, Nat.reduceMul, Nat.reduceEqDiff, Nat.reduceSub, Nat.reduceLT, Nat.reduceLeDiff, Nat.reduceAnd, Nat.reduceShiftRight, Nat.reduceBEq, Nat.reduceBNe, Nat.reduceBneDiff, Nat.reduceBeqDiff, Int.reduceToNat, Int.reduceLE, Int.reduceLT, Int.reduceEq]
abbrev MNode : FM := .f1 (eInt .i64) eBool.enc (fun n => decide (1 ≤ n ∧ n ≤ 20)) (fun _ => True)
attribute [go_sem] MNode
theorem ok_spec_l10Node : MNode.ok Try.prog 39 := FM.f1_ok fun n _ => f_l10Node n

abbrev zBxC : List D := [.c (.v (.int .i64 0)), .c (.v (.int .i64 0)), .c (.v (.int .i64 0)), .c (.v (.int .i64 0)), .c (.v (.int .i64 0)), .c (.v (.int .u64 0)), .c (.v (.int .u64 0)), .c (.v (.int .u64 0)), .c (.v (.int .u64 0)), .c (.v (.slice none 0 0)), .c (.v (.int .i64 0)), .c (.v (.int .u64 0)), .c (.v (.int .u64 0)), .c (.v (.int .u64 0)), .c (.v (.int .u64 0))]

def H_spec_l10Copy : Hint := { fs := [], kp := [(0, [0]), (1, [1, 2]), (2, [1, 2, 3]), (3, [1, 2, 3, 4]), (5, [1, 2, 3, 4]), (4, [1, 2, 3, 4]), (6, [1, 2, 3]), (7, [1, 2])], an := [], own := true }
attribute [go_sem] H_spec_l10Copy
theorem ok_H_spec_l10Copy : H_spec_l10Copy.ok Try.prog := AllOk.okR .nil .nil mix
theorem o_l10Copy (c : Client) (h : c.2.2.2.2.2.1.length ≤ 1100000) : VFun Try.prog 40 [(CE.st cClient).enc c] [] (oClient 0 c) [some (oR (cInt .i64) c.2.2.2.2.2.1)] := by
  obtain ⟨a, b, d, e, g, l, p⟩ := c
  dsimp only at h
  refine VFun_own (rin := []) (n := 24) (rs := [.cell 2 39]) Try.func40 rfl rfl rfl rfl H_spec_l10Copy ok_H_spec_l10Copy (Nat.le_of_ble_eq_true rfl) (by kernel_rfl) ?_
  simp only [go_sem, ↓reduceIte, reduceCtorEq, Nat.reduceAdd, Nat.reduceMul, Nat.reduceEqDiff, Nat.reduceSub, Nat.reduceLT, Nat.reduceLeDiff, Nat.reduceAnd, Nat.reduceShiftRight, Nat.reduceBEq, Nat.reduceBNe, Nat.reduceBneDiff, Nat.reduceBeqDiff, Int.reduceToNat, Int.reduceLE, Int.reduceLT, Int.reduceEq]
  refine LoopV.meas (H := H_spec_l10Copy) ok_H_spec_l10Copy (by kernel_rfl) (fun i : Nat => ⟨[(1, .x (.o (.p (1, 100) 0 0 1))), (2, .x (.o (.p (1, 101) 0 0 1))), (3, .x (.o (.h (1, 102) 0 (l.take i).length (l.take i).length))), (4, sc (.int .i64 i))],
    [((1, 100), .bx [bxClient (a, b, d, e, g, l, p)]), ((1, 101), .bx [zBxC]), ((1, 102), .row 1 ((l.take i).map (cInt .i64).enc))], 2⟩)
    (fun i => l.length - i) (fun i => i ≤ l.length) ?_ 0 (Nat.zero_le _)
  intro i hi
  have ht : (l.take i).length = i := by simp; omega
  rcases Nat.lt_or_ge i l.length with hlt | hge
  · have hx : l[i]? = some l[i] := List.getElem?_eq_getElem hlt
    have hy : l.take (i + 1) = l.take i ++ [l[i]] := List.take_succ_eq_append_getElem hlt
    have hu : (l.take (i + 1)).length = i + 1 := by simp; omega
    generalize l[i] = x at hx hy
    have hw : IntKind.i64.wrap ((i : Int) + 1) = ((i + 1 : Nat) : Int) := by rw [wrap64] <;> omega
    have hlt' : ((i : Int) < (l.length : Int)) = True := by simp; omega
    simp only [go_sem, ↓reduceIte, reduceCtorEq, Nat.reduceAdd, Nat.reduceMul, Nat.reduceEqDiff, Nat.reduceSub, Nat.reduceLT, Nat.reduceLeDiff, Nat.reduceAnd, Nat.reduceShiftRight, Nat.reduceBEq, Nat.reduceBNe, Nat.reduceBneDiff, Nat.reduceBeqDiff, Int.reduceToNat, Int.reduceLE, Int.reduceLT, Int.reduceEq, hx, hw, hlt', ht, zBxC]
    exact ⟨⟨by omega, by omega⟩, i + 1, hlt, by omega, by rw [hu, hy, List.map_append]; rfl⟩
  · have hlt' : ((i : Int) < (l.length : Int)) = False := by simp; omega
    have hi' : i = l.length := by omega
    subst hi'
    have htt : l.take l.length = l := List.take_length
    simp only [go_sem, ↓reduceIte, reduceCtorEq, Nat.reduceAdd, Nat.reduceMul, Nat.reduceEqDiff, Nat.reduceSub, Nat.reduceLT, Nat.reduceLeDiff, Nat.reduceAnd, Nat.reduceShiftRight, Nat.reduceBEq, Nat.reduceBNe, Nat.reduceBneDiff, Nat.reduceBeqDiff, Int.reduceToNat, Int.reduceLE, Int.reduceLT, Int.reduceEq, hlt', htt, zBxC]
abbrev OClientCopy : FM := .g1 (CE.st cClient) (fun c => (oClient 0 c, [some (oR (cInt .i64) c.2.2.2.2.2.1)])) (fun c => c.2.2.2.2.2.1.length ≤ 1100000)
attribute [go_sem] OClientCopy
theorem ok_spec_l10Copy : OClientCopy.ok Try.prog 40 := FM.g1_ok fun c h => o_l10Copy c h

abbrev rTold (t : Told) : List (Option Root) := [some (oR (cInt .i64) t.1.2.2.2.2.2.1), some (oR cLetter t.2.1)]
abbrev OClTick : FM := .g2 (CE.st cClient) (eInt .i64) (fun c me => (oTold (clTickM c me), rTold (clTickM c me))) (fun c _ => c.2.2.2.2.2.1.length ≤ 1048576)
attribute [go_sem] rTold OClTick

def H_spec_ClientTick : Hint := { fs := [(26, MClientOk), (39, MNode), (40, OClientCopy), (41, MWire)], kp := [(0, [0, 1]), (1, [1, 2, 4]), (2, [4]), (3, [1, 2, 4]), (4, [1, 2, 4, 5]), (5, [4, 5]), (6, [1, 2, 4, 5]), (7, [1, 2, 4, 5]), (8, [1, 2, 4, 5]), (9, [1, 2, 4, 5]), (10, [1, 2, 4, 5]), (11, [1, 4, 5, 6]), (12, [4, 5])], an := [], own := true, ow := [(0, 9, 1), (0, 15, 3)] }
attribute [go_sem] H_spec_ClientTick
theorem ok_H_spec_ClientTick : H_spec_ClientTick.ok Try.prog := AllOk.okR (.cons ok_spec_ClientOk (.cons ok_spec_l10Node (.cons ok_spec_l10Copy (.cons ok_spec_WireBytes .nil)))) .nil mix
theorem o_spec_ClientTick (c : Client) (me : Int) (h : c.2.2.2.2.2.1.length ≤ 1048576) : VFun Try.prog 12 [(CE.st cClient).enc c, (eInt .i64).enc me] [] (oTold (clTickM c me)) (rTold (clTickM c me)) := by
  refine VFun_own (rin := []) (n := 47) (rs := [.cell 4 50]) Try.func12 rfl rfl rfl rfl H_spec_ClientTick ok_H_spec_ClientTick (Nat.le_of_ble_eq_true rfl) (by kernel_rfl) ?_
  by_cases h1 : clientM c = true ∧ (1 ≤ me ∧ me ≤ 20)
  case neg =>
    rw [clTickM_no c h1]
    simp only [go_sem, ↓reduceIte, reduceCtorEq, Nat.reduceAdd, Nat.reduceMul, Nat.reduceEqDiff, Nat.reduceSub, Nat.reduceLT, Nat.reduceLeDiff, Nat.reduceAnd, Nat.reduceShiftRight, Nat.reduceBEq, Nat.reduceBNe, Nat.reduceBneDiff, Nat.reduceBeqDiff, Int.reduceToNat, Int.reduceLE, Int.reduceLT, Int.reduceEq]
    exact ⟨h, ite_intro (fun h3 => ite_intro (fun _ => rfl) fun h4 => absurd ⟨h3, by simpa using h4⟩ h1) fun _ => rfl⟩
  by_cases h2 : c.2.2.1 = 1000000
  · have c2 : ((1000000 : Int) ≤ c.2.2.1) = True := eq_true (by omega)
    rw [clTickM_end h1 h2]
    simp only [go_sem, ↓reduceIte, reduceCtorEq, Nat.reduceAdd, Nat.reduceMul, Nat.reduceEqDiff, Nat.reduceSub, Nat.reduceLT, Nat.reduceLeDiff, Nat.reduceAnd, Nat.reduceShiftRight, Nat.reduceBEq, Nat.reduceBNe, Nat.reduceBneDiff, Nat.reduceBeqDiff, Int.reduceToNat, Int.reduceLE, Int.reduceLT, Int.reduceEq, h1, c2]
    exact ⟨h, by omega⟩
  · rw [clTickM_go h1 h2]
    have hs := clientM_ses h1.1
    have hm := tick_aMsg (s := c.2.2.1) (by omega)
    have c2 : ((1000000 : Int) ≤ c.2.2.1) = False := eq_false (by omega)
    have w : IntKind.i64.wrap (c.2.2.1 + 1) = c.2.2.1 + 1 := by rw [wrap64] <;> omega
    simp only [go_sem, ↓reduceIte, reduceCtorEq, Nat.reduceAdd, Nat.reduceMul, Nat.reduceEqDiff, Nat.reduceSub, Nat.reduceLT, Nat.reduceLeDiff, Nat.reduceAnd, Nat.reduceShiftRight, Nat.reduceBEq, Nat.reduceBNe, Nat.reduceBneDiff, Nat.reduceBeqDiff, Int.reduceToNat, Int.reduceLE, Int.reduceLT, Int.reduceEq, h1, c2, w]
    exact ⟨h, by omega, hm, rfl⟩
theorem ok_spec_ClientTick : OClTick.ok Try.prog 12 := FM.g2_ok fun c me h => o_spec_ClientTick c me h

def H_impl_copied_int : Hint := { fs := [], kp := [(0, [0]), (1, [0]), (2, []), (3, [0]), (4, [0, 3]), (5, [3])], an := [], own := true, ow := [(0, 0, 1)] }
attribute [go_sem] H_impl_copied_int
theorem ok_H_impl_copied_int : H_impl_copied_int.ok Try.prog := AllOk.okR .nil .nil mix
theorem o_copied_int (xs : List Int) (h : xs.length ≤ 1100000) : VFun Try.prog 87 [(eList (cInt .i64)).enc xs] [] (oL 0 xs) [some (oR (cInt .i64) xs)] := by
  refine VFun_own (rin := []) (n := 14) (rs := [.tmp 2]) Try.func87 rfl rfl rfl rfl H_impl_copied_int ok_H_impl_copied_int (Nat.le_of_ble_eq_true rfl) (by kernel_rfl) ?_
  simp only [go_sem, ↓reduceIte, reduceCtorEq, Nat.reduceAdd, Nat.reduceMul, Nat.reduceEqDiff, Nat.reduceSub, Nat.reduceLT, Nat.reduceLeDiff, Nat.reduceAnd, Nat.reduceShiftRight, Nat.reduceBEq, Nat.reduceBNe, Nat.reduceBneDiff, Nat.reduceBeqDiff, Int.reduceToNat, Int.reduceLE, Int.reduceLT, Int.reduceEq]
  refine ite_intro (fun h1 => ?_) fun h1 => ?_
  · have : xs = [] := by simpa using h1
    rw [this]; exact ⟨rfl, rfl⟩
  · (repeat' apply And.intro) <;> first | omega | exact map_len_all (cInt .i64) rfl xs | (simp; done) | rfl
abbrev OCopied_int : FM := .g1 (eList (cInt .i64)) (fun xs => (oL 0 xs, [some (oR (cInt .i64) xs)])) (fun xs => xs.length ≤ 1100000)
attribute [go_sem] OCopied_int
theorem ok_impl_copied_int : OCopied_int.ok Try.prog 87 := FM.g1_ok fun xs h => o_copied_int xs h

def H_impl_clientCopy : Hint := { fs := [(87, OCopied_int)], kp := [(0, [0]), (1, [1, 2]), (2, [1, 2, 3]), (3, [2, 3])], an := [], own := true }
attribute [go_sem] H_impl_clientCopy
theorem ok_H_impl_clientCopy : H_impl_clientCopy.ok Try.prog := AllOk.okR (.cons ok_impl_copied_int .nil) .nil mix
theorem o_clientCopy (c : Client) (h : c.2.2.2.2.2.1.length ≤ 1100000) : VFun Try.prog 43 [(CE.st cClient).enc c] [] (oClient 0 c) [some (oR (cInt .i64) c.2.2.2.2.2.1)] := by
  refine VFun_own (rin := []) (n := 10) (rs := [.cell 2 39]) Try.func43 rfl rfl rfl rfl H_impl_clientCopy ok_H_impl_clientCopy (Nat.le_of_ble_eq_true rfl) (by kernel_rfl) ?_
  simp only [go_sem, ↓reduceIte, reduceCtorEq, Nat.reduceAdd, Nat.reduceMul, Nat.reduceEqDiff, Nat.reduceSub, Nat.reduceLT, Nat.reduceLeDiff, Nat.reduceAnd, Nat.reduceShiftRight, Nat.reduceBEq, Nat.reduceBNe, Nat.reduceBneDiff, Nat.reduceBeqDiff, Int.reduceToNat, Int.reduceLE, Int.reduceLT, Int.reduceEq]
  exact h
theorem ok_impl_clientCopy : OClientCopy.ok Try.prog 43 := FM.g1_ok fun c h => o_clientCopy c h

def H_impl_ClientTick : Hint := { fs := [(32, MClientOk), (34, M166), (43, OClientCopy), (44, MLetter)], kp := [(0, [0, 1]), (1, [1, 2, 4]), (2, [4]), (3, [1, 2, 4]), (4, [1, 2, 4, 5]), (5, [4, 5]), (6, [1, 4, 5]), (7, [1, 4, 5]), (8, [1, 4, 5]), (9, [1, 4, 5]), (10, [1, 4, 5]), (11, [4, 5])], an := [], own := true, ow := [(0, 9, 1), (0, 15, 3)] }
attribute [go_sem] H_impl_ClientTick
theorem ok_H_impl_ClientTick : H_impl_ClientTick.ok Try.prog := AllOk.okR (.cons ok_impl_ClientOk (.cons m180 (.cons ok_impl_clientCopy (.cons ok_impl_letter .nil)))) .nil mix
theorem o_ClientTick (c : Client) (me : Int) (h : c.2.2.2.2.2.1.length ≤ 1048576) : VFun Try.prog 14 [(CE.st cClient).enc c, (eInt .i64).enc me] [] (oTold (clTickM c me)) (rTold (clTickM c me)) := by
  refine VFun_own (rin := []) (n := 44) (rs := [.cell 4 50]) Try.func14 rfl rfl rfl rfl H_impl_ClientTick ok_H_impl_ClientTick (Nat.le_of_ble_eq_true rfl) (by kernel_rfl) ?_
  by_cases h1 : clientM c = true ∧ (1 ≤ me ∧ me ≤ 20)
  case neg =>
    rw [clTickM_no c h1]
    simp only [go_sem, ↓reduceIte, reduceCtorEq, Nat.reduceAdd, Nat.reduceMul, Nat.reduceEqDiff, Nat.reduceSub, Nat.reduceLT, Nat.reduceLeDiff, Nat.reduceAnd, Nat.reduceShiftRight, Nat.reduceBEq, Nat.reduceBNe, Nat.reduceBneDiff, Nat.reduceBeqDiff, Int.reduceToNat, Int.reduceLE, Int.reduceLT, Int.reduceEq]
    exact ⟨h, ite_intro (fun h3 => ite_intro (fun _ => rfl) fun h4 => absurd ⟨h3, by simpa using h4⟩ h1) fun _ => rfl⟩
  by_cases h2 : c.2.2.1 = 1000000
  · rw [clTickM_end h1 h2]
    simp only [go_sem, ↓reduceIte, reduceCtorEq, Nat.reduceAdd, Nat.reduceMul, Nat.reduceEqDiff, Nat.reduceSub, Nat.reduceLT, Nat.reduceLeDiff, Nat.reduceAnd, Nat.reduceShiftRight, Nat.reduceBEq, Nat.reduceBNe, Nat.reduceBneDiff, Nat.reduceBeqDiff, Int.reduceToNat, Int.reduceLE, Int.reduceLT, Int.reduceEq, h1, eq_true h2]
    exact ⟨h, by omega⟩
  · rw [clTickM_go h1 h2]
    have hs := clientM_ses h1.1
    have hm := tick_aMsg (s := c.2.2.1) (by omega)
    have w : IntKind.i64.wrap (c.2.2.1 + 1) = c.2.2.1 + 1 := by rw [wrap64] <;> omega
    simp only [go_sem, ↓reduceIte, reduceCtorEq, Nat.reduceAdd, Nat.reduceMul, Nat.reduceEqDiff, Nat.reduceSub, Nat.reduceLT, Nat.reduceLeDiff, Nat.reduceAnd, Nat.reduceShiftRight, Nat.reduceBEq, Nat.reduceBNe, Nat.reduceBneDiff, Nat.reduceBeqDiff, Int.reduceToNat, Int.reduceLE, Int.reduceLT, Int.reduceEq, h1, h2, w]
    exact ⟨h, by omega, hm, rfl⟩
theorem ok_impl_ClientTick : OClTick.ok Try.prog 14 := FM.g2_ok fun c me h => o_ClientTick c me h

end Go.Proofs.YtlofjogebacndaaW.V

