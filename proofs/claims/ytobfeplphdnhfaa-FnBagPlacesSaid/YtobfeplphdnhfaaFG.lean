/- Functions: bags, sent, taken, doubled; bags that are drawn. No condition but each theorem's own. -/
import Derived.Test.YtobfeplphdnhfaaFR
namespace Go.Proofs.YtobfeplphdnhfaaW.V
open Go Go.Proofs
set_option linter.unusedSimpArgs false
set_option linter.unusedVariables false
set_option maxRecDepth 8000
set_option maxHeartbeats 4000000


def H_impl_copied_int : Hint := { fs := [], kp := [(0, [0]), (1, [0]), (2, []), (3, [0]), (4, [0, 3]), (5, [3])], an := [], own := true, ow := [(0, 0, 1)] }
attribute [go_sem] H_impl_copied_int
theorem ok_H_impl_copied_int : H_impl_copied_int.ok Try.prog := AllOk.okR .nil .nil mix
theorem o_copied_int (xs) (h : xs.length ≤ 1000000) : VFun Try.prog 34 [(eList (cInt .i64)).enc xs] [] (oL 0 xs) [some (oR (cInt .i64) xs)] := by
  refine VFun_own (rin := []) (n := 14) (rs := [.tmp 2]) Try.func34 rfl rfl rfl rfl H_impl_copied_int ok_H_impl_copied_int (Nat.le_of_ble_eq_true rfl) (by kernel_rfl) ?_
  simp only [go_sem, ↓reduceIte, reduceCtorEq, Nat.reduceAdd, Nat.reduceMul, Nat.reduceEqDiff, Nat.reduceSub, Nat.reduceLT, Nat.reduceLeDiff, Nat.reduceAnd, Nat.reduceShiftRight, Nat.reduceBEq, Nat.reduceBNe, Nat.reduceBneDiff, Nat.reduceBeqDiff, Int.reduceToNat, Int.reduceLE, Int.reduceLT, Int.reduceEq]
  refine ite_intro (fun h1 => ?_) fun h1 => ?_
  · have : xs = [] := by simpa using h1
    rw [this]; exact ⟨rfl, rfl⟩
  · (repeat' apply And.intro) <;> first | omega | exact map_len_all (cInt .i64) rfl xs | (simp; done) | rfl
abbrev OCopied_int : FM := .g1 (eList (cInt .i64)) (fun xs => (oL 0 xs, [some (oR (cInt .i64) xs)])) (fun xs => xs.length ≤ 1000000)
attribute [go_sem] OCopied_int
theorem ok_impl_copied_int : OCopied_int.ok Try.prog 34 := FM.g1_ok fun xs h => o_copied_int xs h

def H_impl_copied_impl_Letter : Hint := { fs := [], kp := [(0, [0]), (1, [0]), (2, []), (3, [0]), (4, [0, 3]), (5, [3])], an := [], own := true, ow := [(0, 0, 3)] }
attribute [go_sem] H_impl_copied_impl_Letter
theorem ok_H_impl_copied_impl_Letter : H_impl_copied_impl_Letter.ok Try.prog := AllOk.okR .nil .nil mix
theorem o_copied_letter (xs) (h : xs.length ≤ 1000000) : VFun Try.prog 37 [(eList cLetter).enc xs] [] (oL 0 xs) [some (oR cLetter xs)] := by
  refine VFun_own (rin := []) (n := 14) (rs := [.tmp 2]) Try.func37 rfl rfl rfl rfl H_impl_copied_impl_Letter ok_H_impl_copied_impl_Letter (Nat.le_of_ble_eq_true rfl) (by kernel_rfl) ?_
  simp only [go_sem, ↓reduceIte, reduceCtorEq, Nat.reduceAdd, Nat.reduceMul, Nat.reduceEqDiff, Nat.reduceSub, Nat.reduceLT, Nat.reduceLeDiff, Nat.reduceAnd, Nat.reduceShiftRight, Nat.reduceBEq, Nat.reduceBNe, Nat.reduceBneDiff, Nat.reduceBeqDiff, Int.reduceToNat, Int.reduceLE, Int.reduceLT, Int.reduceEq]
  refine ite_intro (fun h1 => ?_) fun h1 => ?_
  · have : xs = [] := by simpa using h1
    rw [this]; exact ⟨rfl, rfl⟩
  · (repeat' apply And.intro) <;> first | omega | exact map_len_all cLetter rfl xs | (simp; done) | rfl
abbrev OCopied_letter : FM := .g1 (eList cLetter) (fun xs => (oL 0 xs, [some (oR cLetter xs)])) (fun xs => xs.length ≤ 1000000)
attribute [go_sem] OCopied_letter
theorem ok_impl_copied_impl_Letter : OCopied_letter.ok Try.prog 37 := FM.g1_ok fun xs h => o_copied_letter xs h

abbrev oBag (j : Nat) (x : Bag) : E := .x (.a [.c (.v (.int .i64 x.1)), .h (0, j) 0 x.2.length x.2.length])
attribute [go_sem] oBag

def H_impl_bagCopy : Hint := { fs := [(37, OCopied_letter)], kp := [(0, [0]), (1, [1, 2])], an := [(1, [0, 1, 0, 4, 12, 31, 63])], own := true }
attribute [go_sem] H_impl_bagCopy
theorem ok_H_impl_bagCopy : H_impl_bagCopy.ok Try.prog := AllOk.okR (.cons ok_impl_copied_impl_Letter .nil) .nil mix
theorem o_bagCopy (x : Bag) (h : x.2.length ≤ 1000000) : VFun Try.prog 35 [(CE.st cBag).enc x] [] (oBag 0 x) [some (oR cLetter x.2)] := by
  obtain ⟨r, ls⟩ := x
  refine VFun_own (rin := []) (n := 9) (rs := [.cell 2 25]) Try.func35 rfl rfl rfl rfl H_impl_bagCopy ok_H_impl_bagCopy (Nat.le_of_ble_eq_true rfl) (by kernel_rfl) ?_
  simp only [go_sem, ↓reduceIte, reduceCtorEq, Nat.reduceAdd, Nat.reduceMul, Nat.reduceEqDiff, Nat.reduceSub, Nat.reduceLT, Nat.reduceLeDiff, Nat.reduceAnd, Nat.reduceShiftRight, Nat.reduceBEq, Nat.reduceBNe, Nat.reduceBneDiff, Nat.reduceBeqDiff, Int.reduceToNat, Int.reduceLE, Int.reduceLT, Int.reduceEq]
  exact h
abbrev OBagCopy : FM := .g1 (CE.st cBag) (fun x => (oBag 0 x, [some (oR cLetter x.2)])) (fun x => x.2.length ≤ 1000000)
attribute [go_sem] OBagCopy
theorem ok_impl_bagCopy : OBagCopy.ok Try.prog 35 := FM.g1_ok fun x h => o_bagCopy x h

/-- Sent, doubled, taken. -/
def sendM (x : Bag) (l : Letter) : Bag × Bool := if bagOk x then (if letterOk l then (if x.1 ≤ (x.2.length : Int) then (x, false) else ((x.1, x.2 ++ [l]), true)) else ((0, []), false)) else ((0, []), false)
abbrev eBagB : CE (Bag × Bool) := eT2 (CE.st cBag) eBool (st_x _) (one_x _ _)
attribute [go_sem] eBagB

def H_impl_BagSend : Hint := { fs := [(33, M167), (35, OBagCopy), (37, OCopied_letter), (39, M51)], kp := [(0, [0, 1]), (1, [2, 3, 4]), (2, [4]), (3, [2, 3, 4]), (4, [2, 4]), (5, [2, 3, 4])], an := [(5, [0, 1, 0, 4, 12, 0, 32, 124, 255, 511, 1023, 2047])] }
attribute [go_sem] H_impl_BagSend
theorem ok_H_impl_BagSend : H_impl_BagSend.ok Try.prog := AllOk.okR (.cons m167 (.cons ok_impl_bagCopy (.cons ok_impl_copied_impl_Letter (.cons m172 .nil)))) .nil mix
theorem f_impl_BagSend (x : Bag) (l : Letter) (h : x.2.length ≤ 999999) : VFun Try.prog 13 [(CE.st cBag).enc x, (CE.st cLetter).enc l] [] (eBagB.enc (sendM x l)) [] := by
  obtain ⟨r, ls⟩ := x
  obtain ⟨a, b, c⟩ := l
  dsimp only at h
  refine VFun_pure (n := 33) (rs := [.cell 4 25, .tmp 5]) Try.func13 rfl rfl rfl rfl H_impl_BagSend ok_H_impl_BagSend _ _ (Nat.le_of_ble_eq_true rfl) (by kernel_rfl) ?_
  simp only [go_sem, ↓reduceIte, reduceCtorEq, Nat.reduceAdd, Nat.reduceMul, Nat.reduceEqDiff, Nat.reduceSub, Nat.reduceLT, Nat.reduceLeDiff, Nat.reduceAnd, Nat.reduceShiftRight, Nat.reduceBEq, Nat.reduceBNe, Nat.reduceBneDiff, Nat.reduceBeqDiff, Int.reduceToNat, Int.reduceLE, Int.reduceLT, Int.reduceEq]
  (repeat' first | refine ite_intro (fun _ => ?_) (fun _ => ?_) | refine And.intro ?_ ?_) <;> first | omega | (unfold maxLen; omega) | (simp_all [sendM]; done) | (simp_all [sendM] <;> omega)
abbrev MSend : FM := .f2 (CE.st cBag) (CE.st cLetter) eBagB.enc sendM (fun x _ => x.2.length ≤ 999999)
attribute [go_sem] MSend
theorem ok_impl_BagSend : MSend.ok Try.prog 13 := FM.f2_ok fun x l h => f_impl_BagSend x l h

def placeM (k n : Int) : Nat := (modulo k n).toNat
def dblM (x : Bag) (k : Int) : Bag × Bool := if bagOk x then (match x.2[placeM k x.2.length]? with
  | some l => if x.1 ≤ (x.2.length : Int) then (x, false) else ((x.1, x.2 ++ [l]), true)
  | none => (x, false)) else ((0, []), false)
def takeM (x : Bag) (k : Int) : Bag × Letter × Bool := if bagOk x then (match x.2[placeM k x.2.length]? with
  | some l => ((x.1, x.2.take (placeM k x.2.length) ++ x.2.drop (placeM k x.2.length + 1)), l, true)
  | none => (x, (0, 0, ⟨#[]⟩), false)) else ((0, []), (0, 0, ⟨#[]⟩), false)
theorem modulo_in {k n : Int} (h : 0 < n) : 0 ≤ modulo k n ∧ modulo k n < n := by
  have b1 : k.tmod n < n := Int.tmod_lt_of_pos k h
  have b2 : -n < k.tmod n := Int.lt_tmod_of_pos k h
  exact ⟨Int.tmod_nonneg _ (by omega), Int.tmod_lt_of_pos _ h⟩
theorem place_some {ls : List Letter} {k : Int} (h : ls ≠ []) : ∃ l, ls[placeM k ls.length]? = some l ∧ (placeM k ls.length : Int) = modulo k ls.length ∧ placeM k ls.length < ls.length := by
  have hl : 0 < (ls.length : Int) := by have := List.length_pos_iff.2 h; omega
  have := modulo_in (k := k) hl
  have h1 : placeM k ls.length < ls.length := by unfold placeM; omega
  exact ⟨_, List.getElem?_eq_getElem h1, by unfold placeM; omega, h1⟩

def H_impl_BagDouble : Hint := { fs := [(33, M167), (35, OBagCopy), (36, M169), (37, OCopied_letter)], kp := [(0, [0, 1]), (1, [1, 2, 4]), (2, [4]), (3, [1, 2, 4]), (4, [2, 4]), (5, [1, 2, 4])], an := [(5, [0, 1, 0, 4, 12, 0, 32, 0, 0, 256, 768, 1948, 4092, 8188, 16380, 32764, 65535, 131071, 262143, 524287])] }
attribute [go_sem] H_impl_BagDouble
theorem ok_H_impl_BagDouble : H_impl_BagDouble.ok Try.prog := AllOk.okR (.cons m167 (.cons ok_impl_bagCopy (.cons m169 (.cons ok_impl_copied_impl_Letter .nil)))) .nil mix
theorem f_impl_BagDouble (x : Bag) (k : Int) (h : x.2.length ≤ 999999) : VFun Try.prog 16 [(CE.st cBag).enc x, (eInt .i64).enc k] [] (eBagB.enc (dblM x k)) [] := by
  obtain ⟨r, ls⟩ := x
  dsimp only at h
  refine VFun_pure (n := 42) (rs := [.cell 4 25, .tmp 5]) Try.func16 rfl rfl rfl rfl H_impl_BagDouble ok_H_impl_BagDouble _ _ (Nat.le_of_ble_eq_true rfl) (by kernel_rfl) ?_
  by_cases hn : ls = []
  · subst hn
    simp only [go_sem, ↓reduceIte, reduceCtorEq, Nat.reduceAdd, Nat.reduceMul, Nat.reduceEqDiff, Nat.reduceSub, Nat.reduceLT, Nat.reduceLeDiff, Nat.reduceAnd, Nat.reduceShiftRight, Nat.reduceBEq, Nat.reduceBNe, Nat.reduceBneDiff, Nat.reduceBeqDiff, Int.reduceToNat, Int.reduceLE, Int.reduceLT, Int.reduceEq]
    (repeat' first | refine ite_intro (fun _ => ?_) (fun _ => ?_) | refine And.intro ?_ ?_) <;> first | omega | (unfold maxLen; omega) | (simp_all [dblM]; done) | (simp_all [dblM] <;> omega)
  · obtain ⟨l, hl, hm, hlt⟩ := place_some (k := k) hn
    have hm' : modulo k (ls.length : Int) = ((placeM k ls.length : Nat) : Int) := hm.symm
    simp only [go_sem, ↓reduceIte, reduceCtorEq, Nat.reduceAdd, Nat.reduceMul, Nat.reduceEqDiff, Nat.reduceSub, Nat.reduceLT, Nat.reduceLeDiff, Nat.reduceAnd, Nat.reduceShiftRight, Nat.reduceBEq, Nat.reduceBNe, Nat.reduceBneDiff, Nat.reduceBeqDiff, Int.reduceToNat, Int.reduceLE, Int.reduceLT, Int.reduceEq, hl, hm']
    (repeat' first | refine ite_intro (fun _ => ?_) (fun _ => ?_) | refine And.intro ?_ ?_) <;> first | omega | (unfold maxLen; omega) | (simp_all [dblM]; done) | (simp_all [dblM] <;> omega)
abbrev MDbl : FM := .f2 (CE.st cBag) (eInt .i64) eBagB.enc dblM (fun x _ => x.2.length ≤ 999999)
attribute [go_sem] MDbl
theorem ok_impl_BagDouble : MDbl.ok Try.prog 16 := FM.f2_ok fun x l h => f_impl_BagDouble x l h

abbrev eTake : CE (Bag × Letter × Bool) := eT3 (CE.st cBag) (CE.st cLetter) eBool (st_x _) (st_x _) (one_x _ _)
attribute [go_sem] eTake

def H_impl_BagTake : Hint := { fs := [(33, M167), (35, OBagCopy), (36, M169), (37, OCopied_letter)], kp := [(0, [0, 1]), (1, [1, 2, 4, 5]), (2, [4, 5]), (3, [1, 2, 4, 5]), (4, [2, 4, 5]), (5, [1, 2, 4, 5]), (6, [2, 4, 5, 7]), (7, [2, 4, 5, 7, 8])], an := [(6, [0, 1, 0, 7, 15, 0, 32, 0, 128, 480, 1023, 2047]), (7, [0, 1, 0, 7, 15, 0, 32, 0, 224, 480, 31, 2047, 4095])] }
attribute [go_sem] H_impl_BagTake
theorem ok_H_impl_BagTake : H_impl_BagTake.ok Try.prog := AllOk.okR (.cons m167 (.cons ok_impl_bagCopy (.cons m169 (.cons ok_impl_copied_impl_Letter .nil)))) .nil mix
theorem f_impl_BagTake (x : Bag) (k : Int) (h : x.2.length ≤ 999999) : VFun Try.prog 10 [(CE.st cBag).enc x, (eInt .i64).enc k] [] (eTake.enc (takeM x k)) [] := by
  obtain ⟨r, ls⟩ := x
  dsimp only at h
  refine VFun_pure (n := 47) (rs := [.cell 4 25, .cell 5 32, .tmp 6]) Try.func10 rfl rfl rfl rfl H_impl_BagTake ok_H_impl_BagTake _ _ (Nat.le_of_ble_eq_true rfl) (by kernel_rfl) ?_
  by_cases hn : ls = []
  · subst hn
    simp only [go_sem, ↓reduceIte, reduceCtorEq, Nat.reduceAdd, Nat.reduceMul, Nat.reduceEqDiff, Nat.reduceSub, Nat.reduceLT, Nat.reduceLeDiff, Nat.reduceAnd, Nat.reduceShiftRight, Nat.reduceBEq, Nat.reduceBNe, Nat.reduceBneDiff, Nat.reduceBeqDiff, Int.reduceToNat, Int.reduceLE, Int.reduceLT, Int.reduceEq]
    (repeat' first | refine ite_intro (fun _ => ?_) (fun _ => ?_) | refine And.intro ?_ ?_) <;> first | omega | (unfold maxLen; omega) | (simp_all [takeM]; done) | (simp_all [takeM] <;> omega)
  · obtain ⟨l, hl, hm, hlt⟩ := place_some (k := k) hn
    have hm' : modulo k (ls.length : Int) = ((placeM k ls.length : Nat) : Int) := hm.symm
    have hw : IntKind.i64.wrap ((placeM k ls.length : Int) + 1) = ((placeM k ls.length + 1 : Nat) : Int) := by rw [wrap64] <;> omega
    have ht : (ls.take (placeM k ls.length)).length = placeM k ls.length := by simp; omega
    simp only [go_sem, ↓reduceIte, reduceCtorEq, Nat.reduceAdd, Nat.reduceMul, Nat.reduceEqDiff, Nat.reduceSub, Nat.reduceLT, Nat.reduceLeDiff, Nat.reduceAnd, Nat.reduceShiftRight, Nat.reduceBEq, Nat.reduceBNe, Nat.reduceBneDiff, Nat.reduceBeqDiff, Int.reduceToNat, Int.reduceLE, Int.reduceLT, Int.reduceEq, hl, hm', hw, ht]
    (repeat' first | refine ite_intro (fun _ => ?_) (fun _ => ?_) | refine And.intro ?_ ?_) <;> first | omega | (unfold maxLen; omega) | (simp_all [takeM]; done) | (simp_all [takeM] <;> omega)
abbrev MTake : FM := .f2 (CE.st cBag) (eInt .i64) eTake.enc takeM (fun x _ => x.2.length ≤ 999999)
attribute [go_sem] MTake
theorem ok_impl_BagTake : MTake.ok Try.prog 10 := FM.f2_ok fun x l h => f_impl_BagTake x l h

def H_spec_l6Mod : Hint := { fs := [], kp := [(0, [0, 1]), (1, [0, 1])], an := [] }
attribute [go_sem] H_spec_l6Mod
theorem ok_H_spec_l6Mod : H_spec_l6Mod.ok Try.prog := AllOk.okR .nil .nil mix
theorem f_l6Mod (a n : Int) (h0 : 0 < n) (h1 : n ≤ 1000000) : VFun Try.prog 45 [(eInt .i64).enc a, (eInt .i64).enc n] [] ((eInt .i64).enc (modulo a n)) [] := by
  refine VFun_pure (n := 12) (rs := [.tmp 4]) Try.func45 rfl rfl rfl rfl H_spec_l6Mod ok_H_spec_l6Mod _ _ (Nat.le_of_ble_eq_true rfl) (by kernel_rfl) ?_
  have b1 : a.tmod n < n := Int.tmod_lt_of_pos a h0
  have b2 : -n < a.tmod n := Int.lt_tmod_of_pos a h0
  have hw : IntKind.i64.wrap (a.tmod n + n) = a.tmod n + n := wrap64 (by omega) (by omega)
  simp only [go_sem, ↓reduceIte, reduceCtorEq, Nat.reduceAdd, Nat.reduceMul, Nat.reduceEqDiff, Nat.reduceSub, Nat.reduceLT, Nat.reduceLeDiff, Nat.reduceAnd, Nat.reduceShiftRight, Nat.reduceBEq, Nat.reduceBNe, Nat.reduceBneDiff, Nat.reduceBeqDiff, Int.reduceToNat, Int.reduceLE, Int.reduceLT, Int.reduceEq, hw]
  exact ⟨by omega, by omega, rfl⟩
theorem ok_spec_l6Mod : M169.ok Try.prog 45 := FM.f2_ok fun a n h => f_l6Mod a n h.1 h.2

def H_spec_l6Copy : Hint := { fs := [], kp := [(0, [0]), (1, [1, 2]), (2, [1, 2, 3]), (3, [1, 2, 3, 4]), (5, [1, 2, 3, 4]), (4, [1, 2, 3, 4]), (6, [2, 3])], an := [(5, [0, 1, 0, 4, 0, 28, 60, 124, 255, 511, 1023])], own := true, nb := [(2, [(3, 1, 3)])], ow := [(0, 1, 3)] }
attribute [go_sem] H_spec_l6Copy
theorem ok_H_spec_l6Copy : H_spec_l6Copy.ok Try.prog := AllOk.okR .nil .nil mix
theorem o_l6Copy (x : Bag) (h : x.2.length ≤ 1000000) : VFun Try.prog 40 [(CE.st cBag).enc x] [] (oBag 0 x) [some (oR cLetter x.2)] := by
  obtain ⟨r, ls⟩ := x
  dsimp only at h
  refine VFun_own (rin := []) (n := 26) (rs := [.cell 2 25]) Try.func40 rfl rfl rfl rfl H_spec_l6Copy ok_H_spec_l6Copy (Nat.le_of_ble_eq_true rfl) (by kernel_rfl) ?_
  simp only [go_sem, ↓reduceIte, reduceCtorEq, Nat.reduceAdd, Nat.reduceMul, Nat.reduceEqDiff, Nat.reduceSub, Nat.reduceLT, Nat.reduceLeDiff, Nat.reduceAnd, Nat.reduceShiftRight, Nat.reduceBEq, Nat.reduceBNe, Nat.reduceBneDiff, Nat.reduceBeqDiff, Int.reduceToNat, Int.reduceLE, Int.reduceLT, Int.reduceEq]
  refine LoopV.meas (H := H_spec_l6Copy) ok_H_spec_l6Copy (by kernel_rfl) (fun i : Nat => ⟨[(1, .x (.o (.p (1, 100) 0 0 1))), (2, .x (.o (.p (1, 101) 0 0 1))), (3, .x (.o (.p (1, 102) 0 0 1))), (4, sc (.int .i64 i))],
    [((1, 100), .bx [[.c (.v (.int .i64 r)), .c (.s (ls.map cLetter.enc))]]), ((1, 101), .bx [[.c (.v (.int .i64 0)), .c (.v (.slice none 0 0))]]), ((1, 102), .bx [[.c (.v (.int .i64 r)), .h (1, 103) 0 (ls.take i).length (ls.take i).length]]), ((1, 103), .row 3 ((ls.take i).map cLetter.enc))], 2⟩)
    (fun i => ls.length - i) (fun i => i ≤ ls.length) ?_ 0 (Nat.zero_le _)
  intro i hi
  have ht : (ls.take i).length = i := by simp; omega
  rcases Nat.lt_or_ge i ls.length with hlt | hge
  · have hx : ls[i]? = some ls[i] := List.getElem?_eq_getElem hlt
    have hy : ls.take (i + 1) = ls.take i ++ [ls[i]] := List.take_succ_eq_append_getElem hlt
    have hu : (ls.take (i + 1)).length = i + 1 := by simp; omega
    generalize ls[i] = x at hx hy
    have hw : IntKind.i64.wrap ((i : Int) + 1) = ((i + 1 : Nat) : Int) := by rw [wrap64] <;> omega
    have hlt' : ((i : Int) < (ls.length : Int)) = True := by simp; omega
    simp only [go_sem, ↓reduceIte, reduceCtorEq, Nat.reduceAdd, Nat.reduceMul, Nat.reduceEqDiff, Nat.reduceSub, Nat.reduceLT, Nat.reduceLeDiff, Nat.reduceAnd, Nat.reduceShiftRight, Nat.reduceBEq, Nat.reduceBNe, Nat.reduceBneDiff, Nat.reduceBeqDiff, Int.reduceToNat, Int.reduceLE, Int.reduceLT, Int.reduceEq, hx, hw, hlt', ht]
    exact ⟨by omega, i + 1, hlt, by omega, by rw [hu, hy, List.map_append]; rfl⟩
  · have hlt' : ((i : Int) < (ls.length : Int)) = False := by simp; omega
    have hi' : i = ls.length := by omega
    subst hi'
    simp only [go_sem, ↓reduceIte, reduceCtorEq, Nat.reduceAdd, Nat.reduceMul, Nat.reduceEqDiff, Nat.reduceSub, Nat.reduceLT, Nat.reduceLeDiff, Nat.reduceAnd, Nat.reduceShiftRight, Nat.reduceBEq, Nat.reduceBNe, Nat.reduceBneDiff, Nat.reduceBeqDiff, Int.reduceToNat, Int.reduceLE, Int.reduceLT, Int.reduceEq, hlt']
theorem ok_spec_l6Copy : OBagCopy.ok Try.prog 40 := FM.g1_ok fun x h => o_l6Copy x h

def H_spec_BagSend : Hint := { fs := [(8, M42), (17, M51), (40, OBagCopy)], kp := [(0, [0, 1]), (1, [2, 3, 4]), (2, [4]), (3, [2, 3, 4]), (4, [3, 4, 6]), (5, [4, 6]), (6, [3, 4, 6]), (7, [4, 6])], an := [] }
attribute [go_sem] H_spec_BagSend
theorem ok_H_spec_BagSend : H_spec_BagSend.ok Try.prog := AllOk.okR (.cons m42 (.cons m51 (.cons ok_spec_l6Copy .nil))) .nil mix
theorem f_spec_BagSend (x : Bag) (l : Letter) (h : x.2.length ≤ 999999) : VFun Try.prog 14 [(CE.st cBag).enc x, (CE.st cLetter).enc l] [] (eBagB.enc (sendM x l)) [] := by
  obtain ⟨r, ls⟩ := x
  dsimp only at h
  refine VFun_pure (n := 32) (rs := [.cell 4 25, .tmp 5]) Try.func14 rfl rfl rfl rfl H_spec_BagSend ok_H_spec_BagSend _ _ (Nat.le_of_ble_eq_true rfl) (by kernel_rfl) ?_
  simp only [go_sem, ↓reduceIte, reduceCtorEq, Nat.reduceAdd, Nat.reduceMul, Nat.reduceEqDiff, Nat.reduceSub, Nat.reduceLT, Nat.reduceLeDiff, Nat.reduceAnd, Nat.reduceShiftRight, Nat.reduceBEq, Nat.reduceBNe, Nat.reduceBneDiff, Nat.reduceBeqDiff, Int.reduceToNat, Int.reduceLE, Int.reduceLT, Int.reduceEq]
  (repeat' first | refine ite_intro (fun _ => ?_) (fun _ => ?_) | refine And.intro ?_ ?_) <;> first | omega | (unfold maxLen; omega) | (simp_all [sendM]; done) | (simp_all [sendM] <;> omega)
theorem ok_spec_BagSend : MSend.ok Try.prog 14 := FM.f2_ok fun x l h => f_spec_BagSend x l h

def H_spec_BagDouble : Hint := { fs := [(8, M42), (40, OBagCopy), (45, M169)], kp := [(0, [0, 1]), (1, [1, 2, 4]), (2, [4]), (3, [1, 2, 4]), (4, [1, 4, 6]), (5, [4, 6]), (6, [1, 4, 6]), (7, [4, 6])], an := [(6, [0, 1, 0, 4, 0, 0, 32, 96, 240, 508, 1020, 2044, 4095, 8191, 16383])] }
attribute [go_sem] H_spec_BagDouble
theorem ok_H_spec_BagDouble : H_spec_BagDouble.ok Try.prog := AllOk.okR (.cons m42 (.cons ok_spec_l6Copy (.cons ok_spec_l6Mod .nil))) .nil mix
theorem f_spec_BagDouble (x : Bag) (k : Int) (h : x.2.length ≤ 999999) : VFun Try.prog 27 [(CE.st cBag).enc x, (eInt .i64).enc k] [] (eBagB.enc (dblM x k)) [] := by
  obtain ⟨r, ls⟩ := x
  dsimp only at h
  refine VFun_pure (n := 41) (rs := [.cell 4 25, .tmp 5]) Try.func27 rfl rfl rfl rfl H_spec_BagDouble ok_H_spec_BagDouble _ _ (Nat.le_of_ble_eq_true rfl) (by kernel_rfl) ?_
  by_cases hn : ls = []
  · subst hn
    simp only [go_sem, ↓reduceIte, reduceCtorEq, Nat.reduceAdd, Nat.reduceMul, Nat.reduceEqDiff, Nat.reduceSub, Nat.reduceLT, Nat.reduceLeDiff, Nat.reduceAnd, Nat.reduceShiftRight, Nat.reduceBEq, Nat.reduceBNe, Nat.reduceBneDiff, Nat.reduceBeqDiff, Int.reduceToNat, Int.reduceLE, Int.reduceLT, Int.reduceEq]
    (repeat' first | refine ite_intro (fun _ => ?_) (fun _ => ?_) | refine And.intro ?_ ?_) <;> first | omega | (unfold maxLen; omega) | (simp_all [dblM]; done) | (simp_all [dblM] <;> omega)
  · obtain ⟨l, hl, hm, hlt⟩ := place_some (k := k) hn
    have hm' : modulo k (ls.length : Int) = ((placeM k ls.length : Nat) : Int) := hm.symm
    simp only [go_sem, ↓reduceIte, reduceCtorEq, Nat.reduceAdd, Nat.reduceMul, Nat.reduceEqDiff, Nat.reduceSub, Nat.reduceLT, Nat.reduceLeDiff, Nat.reduceAnd, Nat.reduceShiftRight, Nat.reduceBEq, Nat.reduceBNe, Nat.reduceBneDiff, Nat.reduceBeqDiff, Int.reduceToNat, Int.reduceLE, Int.reduceLT, Int.reduceEq, hl, hm', hlt]
    (repeat' first | refine ite_intro (fun _ => ?_) (fun _ => ?_) | refine And.intro ?_ ?_) <;> first | omega | (unfold maxLen; omega) | (simp_all [dblM]; done) | (simp_all [dblM] <;> omega)
theorem ok_spec_BagDouble : MDbl.ok Try.prog 27 := FM.f2_ok fun x l h => f_spec_BagDouble x l h

def H_spec_BagTake : Hint := { fs := [(8, M42), (40, OBagCopy), (45, M169)], kp := [(0, [0, 1]), (1, [1, 2, 4, 5]), (2, [4, 5]), (3, [1, 2, 4, 5]), (4, [2, 4, 5]), (5, [1, 2, 4, 5]), (6, [1, 2, 4, 5]), (7, [1, 2, 4, 5, 7]), (8, [1, 2, 4, 5, 7, 8]), (10, [1, 2, 4, 5, 7, 8]), (11, [1, 2, 4, 5, 7, 8]), (9, [1, 2, 4, 5, 7, 8]), (12, [1, 2, 4, 5, 7])], an := [(11, [0, 1, 0, 4, 0, 28, 60, 124, 255, 511, 1023]), (12, [0, 0, 2, 0, 14, 30, 1, 127, 255])], nb := [(7, [(7, 1, 3)])] }
attribute [go_sem] H_spec_BagTake
theorem ok_H_spec_BagTake : H_spec_BagTake.ok Try.prog := AllOk.okR (.cons m42 (.cons ok_spec_l6Copy (.cons ok_spec_l6Mod .nil))) .nil mix
theorem f_spec_BagTake (x : Bag) (k : Int) (h : x.2.length ≤ 999999) : VFun Try.prog 28 [(CE.st cBag).enc x, (eInt .i64).enc k] [] (eTake.enc (takeM x k)) [] := by
  obtain ⟨r, ls⟩ := x
  dsimp only at h
  refine VFun_pure (n := 55) (rs := [.cell 4 25, .cell 5 32, .tmp 6]) Try.func28 rfl rfl rfl rfl H_spec_BagTake ok_H_spec_BagTake _ _ (Nat.le_of_ble_eq_true rfl) (by kernel_rfl) ?_
  by_cases hn : ls = []
  · subst hn
    simp only [go_sem, ↓reduceIte, reduceCtorEq, Nat.reduceAdd, Nat.reduceMul, Nat.reduceEqDiff, Nat.reduceSub, Nat.reduceLT, Nat.reduceLeDiff, Nat.reduceAnd, Nat.reduceShiftRight, Nat.reduceBEq, Nat.reduceBNe, Nat.reduceBneDiff, Nat.reduceBeqDiff, Int.reduceToNat, Int.reduceLE, Int.reduceLT, Int.reduceEq]
    (repeat' first | refine ite_intro (fun _ => ?_) (fun _ => ?_) | refine And.intro ?_ ?_) <;> first | omega | (unfold maxLen; omega) | (simp_all [takeM]; done) | (simp_all [takeM] <;> omega)
  · obtain ⟨l, hl, hm, hlt⟩ := place_some (k := k) hn
    have hm' : modulo k (ls.length : Int) = ((placeM k ls.length : Nat) : Int) := hm.symm
    have hn' : ((ls.length : Int) = 0) = False := eq_false (by have := List.length_pos_iff.2 hn; omega)
    simp only [go_sem, ↓reduceIte, reduceCtorEq, Nat.reduceAdd, Nat.reduceMul, Nat.reduceEqDiff, Nat.reduceSub, Nat.reduceLT, Nat.reduceLeDiff, Nat.reduceAnd, Nat.reduceShiftRight, Nat.reduceBEq, Nat.reduceBNe, Nat.reduceBneDiff, Nat.reduceBeqDiff, Int.reduceToNat, Int.reduceLE, Int.reduceLT, Int.reduceEq, hl, hm', hn']
    refine ite_intro (fun hb => ?_) fun hb => ?_
    · have : bagOk (r, ls) = false := by simpa using hb
      simp [takeM, this]
    refine ⟨by omega, ?_⟩
    refine LoopV.go (H := H_spec_BagTake) ok_H_spec_BagTake (by kernel_rfl) (fun i : Nat => ⟨[(1, sc (.int .i64 (placeM k ls.length : Nat))), (2, .x (.o (.p (1, 100) 0 0 1))), (4, .x (.o (.p (1, 101) 0 0 1))), (5, .x (.o (.p (1, 102) 0 0 1))), (7, .x (.o (.p (1, 103) 0 0 1))), (8, sc (.int .i64 i))],
      [((1, 100), .bx [[.c (.v (.int .i64 r)), .c (.s (ls.map cLetter.enc))]]), ((1, 101), .bx [[.c (.v (.int .i64 0)), .c (.v (.slice none 0 0))]]), ((1, 102), .bx [[.c (.v (.int .i64 0)), .c (.v (.int .i64 0)), .c (.v (.string ⟨#[]⟩))]]),
        ((1, 103), .bx [[.c (.v (.int .i64 r)), .h (1, 104) 0 (ls.take i |>.eraseIdx (placeM k ls.length)).length (ls.take i |>.eraseIdx (placeM k ls.length)).length]]), ((1, 104), .row 3 ((ls.take i |>.eraseIdx (placeM k ls.length)).map cLetter.enc))], 2⟩)
      (fun i => ls.length - i) (fun i => i ≤ ls.length) ?_ 0 (Nat.zero_le _)
    intro i hi
    rcases Nat.lt_or_ge i ls.length with hlt2 | hge
    · have hx : ls[i]? = some ls[i] := List.getElem?_eq_getElem hlt2
      have hy : ls.take (i + 1) = ls.take i ++ [ls[i]] := List.take_succ_eq_append_getElem hlt2
      generalize ls[i] = x at hx hy
      have hw : IntKind.i64.wrap ((i : Int) + 1) = ((i + 1 : Nat) : Int) := by rw [wrap64] <;> omega
      have hlt' : ((i : Int) < (ls.length : Int)) = True := by simp; omega
      simp only [go_sem, ↓reduceIte, reduceCtorEq, Nat.reduceAdd, Nat.reduceMul, Nat.reduceEqDiff, Nat.reduceSub, Nat.reduceLT, Nat.reduceLeDiff, Nat.reduceAnd, Nat.reduceShiftRight, Nat.reduceBEq, Nat.reduceBNe, Nat.reduceBneDiff, Nat.reduceBeqDiff, Int.reduceToNat, Int.reduceLE, Int.reduceLT, Int.reduceEq, hx, hw, hlt']
      have hl2 : (ls.take i).length = i := by rw [List.length_take]; omega
      have he : i = placeM k ls.length → (ls.take (i + 1)).eraseIdx (placeM k ls.length) = (ls.take i).eraseIdx (placeM k ls.length) := fun e => by
        have e1 : (ls.take i).eraseIdx (placeM k ls.length) = ls.take i := List.eraseIdx_of_length_le (by omega)
        rw [e1, hy, List.eraseIdx_append_of_length_le (by omega), hl2, ← e]
        simp
      have hf : ¬ i = placeM k ls.length → (ls.take (i + 1)).eraseIdx (placeM k ls.length) = (ls.take i).eraseIdx (placeM k ls.length) ++ [x] := fun e => by
        rw [hy]
        rcases Nat.lt_or_ge i (placeM k ls.length) with h1 | h1
        · rw [List.eraseIdx_of_length_le (by simp only [List.length_append, hl2, List.length_singleton]; omega), List.eraseIdx_of_length_le (by omega)]
        · rw [List.eraseIdx_append_of_lt_length (by omega)]
      have hlen : ((ls.take i).eraseIdx (placeM k ls.length)).length ≤ ls.length := by simp [List.length_eraseIdx]; split <;> omega
      refine ite_intro (fun c => ?_) fun c => ?_
      · exact ⟨by omega, i + 1, by omega, by omega, by rw [hf (by omega)]; simp [cLetter]; rfl⟩
      · exact ⟨i + 1, by omega, by omega, by rw [he (by omega)]⟩
    · have hlt' : ((i : Int) < (ls.length : Int)) = False := by simp; omega
      have hi' : i = ls.length := by omega
      subst hi'
      simp only [go_sem, ↓reduceIte, reduceCtorEq, Nat.reduceAdd, Nat.reduceMul, Nat.reduceEqDiff, Nat.reduceSub, Nat.reduceLT, Nat.reduceLeDiff, Nat.reduceAnd, Nat.reduceShiftRight, Nat.reduceBEq, Nat.reduceBNe, Nat.reduceBneDiff, Nat.reduceBeqDiff, Int.reduceToNat, Int.reduceLE, Int.reduceLT, Int.reduceEq, hlt', hl]
      rw [List.eraseIdx_eq_take_drop_succ]
      have : bagOk (r, ls) = true := by simpa using hb
      simp [takeM, this, hl]
theorem ok_spec_BagTake : MTake.ok Try.prog 28 := FM.f2_ok fun x l h => f_spec_BagTake x l h

def H_laws_ifInt : Hint := { fs := [], kp := [(0, [0, 1]), (1, [0, 1]), (2, [1]), (3, [])], an := [] }
attribute [go_sem] H_laws_ifInt
theorem ok_H_laws_ifInt : H_laws_ifInt.ok Try.prog := AllOk.okR .nil .nil mix
theorem f_ifInt (b : Bool) (n : Int) : VFun Try.prog 11 [eBool.enc b, (eInt .i64).enc n] [] ((eInt .i64).enc (if b then n else 0)) [] := by
  refine VFun_pure (n := 7) (rs := [.tmp 4]) Try.func11 rfl rfl rfl rfl H_laws_ifInt ok_H_laws_ifInt _ _ (Nat.le_of_ble_eq_true rfl) (by kernel_rfl) ?_
  simp only [go_sem, ↓reduceIte, reduceCtorEq, Nat.reduceAdd, Nat.reduceMul, Nat.reduceEqDiff, Nat.reduceSub, Nat.reduceLT, Nat.reduceLeDiff, Nat.reduceAnd, Nat.reduceShiftRight, Nat.reduceBEq, Nat.reduceBNe, Nat.reduceBneDiff, Nat.reduceBeqDiff, Int.reduceToNat, Int.reduceLE, Int.reduceLT, Int.reduceEq]
  cases b <;> rfl
abbrev MIf : FM := .f2 eBool (eInt .i64) (eInt .i64).enc (fun b n => if b then n else 0) (fun _ _ => True)
attribute [go_sem] MIf
theorem ok_laws_ifInt : MIf.ok Try.prog 11 := FM.f2_ok fun b n _ => f_ifInt b n

def s_l6 (b : List UInt8) (y : Letter × Int × Int) : LS := ⟨[(0, rdP), (2, .x (.o (.p (1, 100) 0 0 1))), (3, .x (.o (.p (1, 101) 0 0 1))), (4, sc (.int .i64 y.2.1))],
  [((0, 0), rdR b y.2.2), ((1, 100), .bx [[.c (.v (.int .i64 0)), .c (.v (.int .i64 0)), .c (.v (.string ⟨#[]⟩))]]), ((1, 101), .bx [[.c (.v (.int .i64 y.1.1)), .c (.v (.int .i64 y.1.2.1)), .c (.v (.string y.1.2.2))]])], 2⟩
def s_l6e (b : List UInt8) (y : Letter × Int) : LS := ⟨[(2, .x (.o (.p (1, 100) 0 0 1))), (3, .x (.o (.p (1, 101) 0 0 1)))],
  [((0, 0), rdR b y.2), ((1, 100), .bx [[.c (.v (.int .i64 0)), .c (.v (.int .i64 0)), .c (.v (.string ⟨#[]⟩))]]), ((1, 101), .bx [[.c (.v (.int .i64 y.1.1)), .c (.v (.int .i64 y.1.2.1)), .c (.v (.string y.1.2.2))]])], 2⟩
attribute [go_sem] s_l6 s_l6e

def H_spec_l6Letter : Hint := { fs := [], kp := [(0, [0]), (1, [0, 2]), (2, [0, 2, 3]), (3, [0, 2, 3, 4]), (4, [0, 2, 3, 4]), (5, [0, 2, 3, 4]), (6, [0, 2, 3, 4]), (7, [0, 2, 3, 4]), (8, [0, 2, 3]), (9, [2, 3])], an := [], rs := [(46, RPickL), (48, RText), (49, RMany)], cut := [5, 7, 9] }
attribute [go_sem] H_spec_l6Letter
theorem ok_H_spec_l6Letter : H_spec_l6Letter.ok Try.prog := AllOk.okR .nil (.cons okR_pickL (.cons ok_spec_l1Rd_text (.cons ok_spec_l1Many .nil))) mix
theorem f_l6Letter (b : List UInt8) (p : Int) (h0 : 0 ≤ p) (h1 : p + 20 ≤ rdM) : ∃ t : Letter × Int, (p ≤ t.2 ∧ t.2 ≤ p + 20 ∧ t.1.2.2.size ≤ 601) ∧ VFun Try.prog 38 [rdP] [some (rdR b p)] ((CE.st cLetter).enc t.1) [some (rdR b t.2)] := by
  unfold rdM at h1
  refine VFun_rel (n := 38) (rs := [.cell 2 32]) Try.func38 rfl rfl rfl rfl H_spec_l6Letter ok_H_spec_l6Letter  (rin := [rdR b p]) (T := Letter × Int) (CE.st cLetter) (fun t => t.1) (fun t => [some (rdR b t.2)]) (fun t => p ≤ t.2 ∧ t.2 ≤ p + 20 ∧ t.1.2.2.size ≤ 601) (Nat.le_of_ble_eq_true rfl) (by kernel_rfl) ?_
  simp only [go_sem, ↓reduceIte, reduceCtorEq, Nat.reduceAdd, Nat.reduceMul, Nat.reduceEqDiff, Nat.reduceSub, Nat.reduceLT, Nat.reduceLeDiff, Nat.reduceAnd, Nat.reduceShiftRight, Nat.reduceBEq, Nat.reduceBNe, Nat.reduceBneDiff, Nat.reduceBeqDiff, Int.reduceToNat, Int.reduceLE, Int.reduceLT, Int.reduceEq]
  refine ⟨by omega, ?_⟩; rintro f0 p1 a1
  refine ⟨by omega, ?_⟩; rintro t0 p2 a2
  refine ⟨by omega, ?_⟩; rintro x0 p3 a3
  refine ⟨by omega, ?_⟩; rintro k0 p4 a4
  refine CutS.intro (H := H_spec_l6Letter) ok_H_spec_l6Letter (by kernel_rfl) (by kernel_rfl) (s_l6 b) (fun y => p ≤ y.2.2 ∧ y.2.2 ≤ p + 10 ∧ y.1.2.2.size ≤ 601) ?_ ?_
  · simp only [go_sem, ↓reduceIte, reduceCtorEq, Nat.reduceAdd, Nat.reduceMul, Nat.reduceEqDiff, Nat.reduceSub, Nat.reduceLT, Nat.reduceLeDiff, Nat.reduceAnd, Nat.reduceShiftRight, Nat.reduceBEq, Nat.reduceBNe, Nat.reduceBneDiff, Nat.reduceBeqDiff, Int.reduceToNat, Int.reduceLE, Int.reduceLT, Int.reduceEq]
    refine ite_intro (fun c => ?_) fun c => ?_
    · refine ⟨by omega, ?_⟩; rintro v q g
      have hw : IntKind.i64.wrap (600 + v) = 600 + v := wrap64 (by omega) (by omega)
      rw [hw]
      refine ⟨⟨by omega, by omega, by decide⟩, fun z hz => ?_⟩
      have hz' : (z.size : Int) = 1 * (600 + v) := hz
      exact ⟨((f0, t0, z), k0, q), by dsimp only; omega, rfl⟩
    · exact ⟨((f0, t0, x0), k0, p4), by dsimp only; omega, rfl⟩
  rintro ⟨⟨f, t, x⟩, k, q⟩ j
  dsimp only at j
  simp only [go_sem, ↓reduceIte, reduceCtorEq, Nat.reduceAdd, Nat.reduceMul, Nat.reduceEqDiff, Nat.reduceSub, Nat.reduceLT, Nat.reduceLeDiff, Nat.reduceAnd, Nat.reduceShiftRight, Nat.reduceBEq, Nat.reduceBNe, Nat.reduceBneDiff, Nat.reduceBeqDiff, Int.reduceToNat, Int.reduceLE, Int.reduceLT, Int.reduceEq]
  refine CutS.intro (H := H_spec_l6Letter) ok_H_spec_l6Letter (by kernel_rfl) (by kernel_rfl) (s_l6 b) (fun y => p ≤ y.2.2 ∧ y.2.2 ≤ p + 15 ∧ y.1.2.2.size ≤ 601) ?_ ?_
  · simp only [go_sem, ↓reduceIte, reduceCtorEq, Nat.reduceAdd, Nat.reduceMul, Nat.reduceEqDiff, Nat.reduceSub, Nat.reduceLT, Nat.reduceLeDiff, Nat.reduceAnd, Nat.reduceShiftRight, Nat.reduceBEq, Nat.reduceBNe, Nat.reduceBneDiff, Nat.reduceBeqDiff, Int.reduceToNat, Int.reduceLE, Int.reduceLT, Int.reduceEq]
    (repeat' first | (refine ite_intro (fun _ => ?_) (fun _ => ?_)) | (refine And.intro ?_ ?_) | intro _) <;> first | omega | exact ⟨((_, _, _), _, _), by dsimp only; omega, rfl⟩ | exact ⟨((_, _, _), _, _), by dsimp only; omega, rfl, rfl⟩
  clear j
  rintro ⟨⟨f, t, x⟩, k, q⟩ j
  dsimp only at j
  simp only [go_sem, ↓reduceIte, reduceCtorEq, Nat.reduceAdd, Nat.reduceMul, Nat.reduceEqDiff, Nat.reduceSub, Nat.reduceLT, Nat.reduceLeDiff, Nat.reduceAnd, Nat.reduceShiftRight, Nat.reduceBEq, Nat.reduceBNe, Nat.reduceBneDiff, Nat.reduceBeqDiff, Int.reduceToNat, Int.reduceLE, Int.reduceLT, Int.reduceEq]
  refine CutS.intro (H := H_spec_l6Letter) ok_H_spec_l6Letter (by kernel_rfl) (by kernel_rfl) (s_l6e b) (fun y => p ≤ y.2 ∧ y.2 ≤ p + 20 ∧ y.1.2.2.size ≤ 601) ?_ ?_
  · simp only [go_sem, ↓reduceIte, reduceCtorEq, Nat.reduceAdd, Nat.reduceMul, Nat.reduceEqDiff, Nat.reduceSub, Nat.reduceLT, Nat.reduceLeDiff, Nat.reduceAnd, Nat.reduceShiftRight, Nat.reduceBEq, Nat.reduceBNe, Nat.reduceBneDiff, Nat.reduceBeqDiff, Int.reduceToNat, Int.reduceLE, Int.reduceLT, Int.reduceEq]
    (repeat' first | (refine ite_intro (fun _ => ?_) (fun _ => ?_)) | (refine And.intro ?_ ?_) | intro _) <;> first | omega | exact ⟨((_, _, _), _), by dsimp only; omega, rfl⟩ | exact ⟨((_, _, _), _), by dsimp only; omega, rfl, rfl⟩
  clear j
  rintro ⟨⟨f, t, x⟩, q⟩ j
  dsimp only at j
  simp only [go_sem, ↓reduceIte, reduceCtorEq, Nat.reduceAdd, Nat.reduceMul, Nat.reduceEqDiff, Nat.reduceSub, Nat.reduceLT, Nat.reduceLeDiff, Nat.reduceAnd, Nat.reduceShiftRight, Nat.reduceBEq, Nat.reduceBNe, Nat.reduceBneDiff, Nat.reduceBeqDiff, Int.reduceToNat, Int.reduceLE, Int.reduceLT, Int.reduceEq]
  exact ⟨((f, t, x), q), j, rfl, rfl⟩
abbrev RLetter : FR := .rd0 (CE.st cLetter).enc 20 (fun t => t.2.2.size ≤ 601)
attribute [go_sem] RLetter
theorem ok_spec_l6Letter : RLetter.ok Try.prog 38 := FR.rd0_ok fun b p h0 h1 => f_l6Letter b p h0 h1

def H_spec_l6Place : Hint := { fs := [], kp := [(0, [0]), (1, [0]), (2, [0, 3]), (3, [0]), (4, [0, 3]), (5, [0]), (6, [0, 3]), (7, [0]), (8, [0])], an := [], rs := [(46, RPick)] }
attribute [go_sem] H_spec_l6Place
theorem ok_H_spec_l6Place : H_spec_l6Place.ok Try.prog := AllOk.okR .nil (.cons ok_spec_l1Rd_pick .nil) mix
theorem f_l6Place (b : List UInt8) (p : Int) (h0 : 0 ≤ p) (h1 : p + 5 ≤ rdM) : ∃ t : Int × Int, (p ≤ t.2 ∧ t.2 ≤ p + 5 ∧ True) ∧ VFun Try.prog 31 [rdP] [some (rdR b p)] ((eInt .i64).enc t.1) [some (rdR b t.2)] := by
  unfold rdM at h1
  refine VFun_rel (n := 23) (rs := [.tmp 2]) Try.func31 rfl rfl rfl rfl H_spec_l6Place ok_H_spec_l6Place  (rin := [rdR b p]) (T := Int × Int) (eInt .i64) (fun t => t.1) (fun t => [some (rdR b t.2)]) (fun t => p ≤ t.2 ∧ t.2 ≤ p + 5 ∧ True) (Nat.le_of_ble_eq_true rfl) (by kernel_rfl) ?_
  simp only [go_sem, ↓reduceIte, reduceCtorEq, Nat.reduceAdd, Nat.reduceMul, Nat.reduceEqDiff, Nat.reduceSub, Nat.reduceLT, Nat.reduceLeDiff, Nat.reduceAnd, Nat.reduceShiftRight, Nat.reduceBEq, Nat.reduceBNe, Nat.reduceBneDiff, Nat.reduceBeqDiff, Int.reduceToNat, Int.reduceLE, Int.reduceLT, Int.reduceEq]
  (repeat' first | (refine ite_intro (fun _ => ?_) (fun _ => ?_)) | (refine And.intro ?_ ?_) | intro _) <;> first | omega | exact ⟨(_, _), by dsimp only; omega, rfl⟩ | exact ⟨(_, _), by dsimp only; omega, rfl, rfl⟩
abbrev RPlace : FR := .rd0 (eInt .i64).enc 5 (fun _ => True)
attribute [go_sem] RPlace
theorem ok_spec_l6Place : RPlace.ok Try.prog 31 := FR.rd0_ok fun b p h0 h1 => f_l6Place b p h0 h1

abbrev zBag : Root := .bx [[.c (.v (.int .i64 0)), .c (.v (.slice none 0 0))]]
def s_b5 (b : List UInt8) (y : Int × Int × Int) : LS := ⟨[(0, rdP), (2, .x (.o (.p (1, 100) 0 0 1))), (3, .x (.o (.p (1, 101) 0 0 1))), (4, sc (.int .i64 y.2.1))],
  [((0, 0), rdR b y.2.2), ((1, 100), zBag), ((1, 101), .bx [[.c (.v (.int .i64 y.1)), .c (.v (.slice none 0 0))]])], 2⟩
def s_bl (b : List UInt8) (room n : Int) (y : List Letter × Nat × Int) : LS := ⟨[(0, rdP), (2, .x (.o (.p (1, 100) 0 0 1))), (3, .x (.o (.p (1, 101) 0 0 1))), (4, sc (.int .i64 n)), (5, sc (.int .i64 y.2.1))],
  [((0, 0), rdR b y.2.2), ((1, 100), zBag), ((1, 101), .bx [[.c (.v (.int .i64 room)), .h (1, 102) 0 y.1.length y.1.length]]), ((1, 102), .row 3 (y.1.map cLetter.enc))], 2⟩
def s_b12 (b : List UInt8) (y : Int × List Letter × Int) : LS := ⟨[(0, rdP), (2, .x (.o (.p (1, 100) 0 0 1))), (3, .x (.o (.p (1, 101) 0 0 1)))],
  [((0, 0), rdR b y.2.2), ((1, 100), zBag), ((1, 101), .bx [[.c (.v (.int .i64 y.1)), .h (1, 102) 0 y.2.1.length y.2.1.length]]), ((1, 102), .row 3 (y.2.1.map cLetter.enc))], 2⟩
def s_b15 (b : List UInt8) (y : Int × List Letter × Int × Int) : LS := ⟨[(0, rdP), (2, .x (.o (.p (1, 100) 0 0 1))), (3, .x (.o (.p (1, 101) 0 0 1))), (6, sc (.int .i64 y.2.2.1))],
  [((0, 0), rdR b y.2.2.2), ((1, 100), zBag), ((1, 101), .bx [[.c (.v (.int .i64 y.1)), .h (1, 102) 0 y.2.1.length y.2.1.length]]), ((1, 102), .row 3 (y.2.1.map cLetter.enc))], 2⟩
def s_b17 (b : List UInt8) (y : Int × List Letter × Int) : LS := ⟨[(2, .x (.o (.p (1, 100) 0 0 1))), (3, .x (.o (.p (1, 101) 0 0 1)))],
  [((0, 0), rdR b y.2.2), ((1, 100), zBag), ((1, 101), .bx [[.c (.v (.int .i64 y.1)), .h (1, 102) 0 y.2.1.length y.2.1.length]]), ((1, 102), .row 3 (y.2.1.map cLetter.enc))], 2⟩
attribute [go_sem] zBag s_b5 s_bl s_b12 s_b15 s_b17

def H_spec_l6Bag : Hint := { fs := [], kp := [(0, [0]), (1, [0, 2]), (2, [0, 2, 3]), (3, [0, 2, 3, 4]), (4, [0, 2, 3]), (5, [0, 2, 3, 4]), (6, [0, 2, 3]), (7, [0, 2, 3]), (8, [0, 2, 3, 4]), (9, [0, 2, 3, 4, 5]), (11, [0, 2, 3, 4, 5]), (10, [0, 2, 3, 4, 5]), (12, [0, 2, 3]), (13, [0, 2, 3, 6]), (14, [0, 2, 3, 6]), (15, [0, 2, 3, 6]), (16, [0, 2, 3]), (17, [2, 3])], an := [(11, [0, 1, 0, 4, 12, 31, 63, 127]), (14, [0, 1, 0, 4, 12, 31, 63, 127])], rs := [(38, RLetter), (46, RPick)], nb := [(8, [(3, 1, 3)])], cut := [5, 8, 12, 15, 17] }
attribute [go_sem] H_spec_l6Bag
theorem ok_H_spec_l6Bag : H_spec_l6Bag.ok Try.prog := AllOk.okR .nil (.cons ok_spec_l6Letter (.cons ok_spec_l1Rd_pick .nil)) mix
theorem f_l6Bag (b : List UInt8) (p : Int) (h0 : 0 ≤ p) (h1 : p + 2000 ≤ rdM) : ∃ t : Bag × Int, (p ≤ t.2 ∧ t.2 ≤ p + 2000 ∧ t.1.2.length ≤ 66 ∧ ∀ x ∈ t.1.2, x.2.2.size ≤ 601) ∧ VFun Try.prog 30 [rdP] [some (rdR b p)] ((CE.st cBag).enc t.1) [some (rdR b t.2)] := by
  unfold rdM at h1
  refine VFun_rel (n := 60) (rs := [.cell 2 25]) Try.func30 rfl rfl rfl rfl H_spec_l6Bag ok_H_spec_l6Bag  (rin := [rdR b p]) (T := Bag × Int) (CE.st cBag) (fun t => t.1) (fun t => [some (rdR b t.2)]) (fun t => p ≤ t.2 ∧ t.2 ≤ p + 2000 ∧ t.1.2.length ≤ 66 ∧ ∀ x ∈ t.1.2, x.2.2.size ≤ 601) (Nat.le_of_ble_eq_true rfl) (by kernel_rfl) ?_
  simp only [go_sem, ↓reduceIte, reduceCtorEq, Nat.reduceAdd, Nat.reduceMul, Nat.reduceEqDiff, Nat.reduceSub, Nat.reduceLT, Nat.reduceLeDiff, Nat.reduceAnd, Nat.reduceShiftRight, Nat.reduceBEq, Nat.reduceBNe, Nat.reduceBneDiff, Nat.reduceBeqDiff, Int.reduceToNat, Int.reduceLE, Int.reduceLT, Int.reduceEq]
  refine ⟨by omega, ?_⟩; rintro r0 q0 g0
  have w0 : IntKind.i64.wrap (1 + r0) = 1 + r0 := wrap64 (by omega) (by omega)
  have w1 : IntKind.i64.wrap (1 + r0 + 1) = 1 + r0 + 1 := wrap64 (by omega) (by omega)
  simp only [w0, w1]
  refine ⟨by omega, ?_⟩; rintro n0 q1 g1
  refine CutS.intro (H := H_spec_l6Bag) ok_H_spec_l6Bag (by kernel_rfl) (by kernel_rfl) (s_b5 b) (fun y => 1 ≤ y.1 ∧ y.1 ≤ 8 ∧ 0 ≤ y.2.1 ∧ y.2.1 ≤ 8 ∧ p ≤ y.2.2 ∧ y.2.2 ≤ p + 5) ?_ ?_
  · simp only [go_sem, ↓reduceIte, reduceCtorEq, Nat.reduceAdd, Nat.reduceMul, Nat.reduceEqDiff, Nat.reduceSub, Nat.reduceLT, Nat.reduceLeDiff, Nat.reduceAnd, Nat.reduceShiftRight, Nat.reduceBEq, Nat.reduceBNe, Nat.reduceBneDiff, Nat.reduceBeqDiff, Int.reduceToNat, Int.reduceLE, Int.reduceLT, Int.reduceEq]
    (repeat' first | (refine ite_intro (fun _ => ?_) (fun _ => ?_)) | (refine And.intro ?_ ?_) | intro _) <;> first | omega | exact ⟨(_, _, _), by dsimp only; omega, rfl⟩ | exact ⟨(_, _, _), by dsimp only; omega, rfl, rfl⟩
  clear g0 g1 w0 w1
  rintro ⟨r, n, q⟩ j
  dsimp only at j
  simp only [go_sem, ↓reduceIte, reduceCtorEq, Nat.reduceAdd, Nat.reduceMul, Nat.reduceEqDiff, Nat.reduceSub, Nat.reduceLT, Nat.reduceLeDiff, Nat.reduceAnd, Nat.reduceShiftRight, Nat.reduceBEq, Nat.reduceBNe, Nat.reduceBneDiff, Nat.reduceBeqDiff, Int.reduceToNat, Int.reduceLE, Int.reduceLT, Int.reduceEq]
  refine CutS.intro (H := H_spec_l6Bag) ok_H_spec_l6Bag (by kernel_rfl) (by kernel_rfl) (s_b5 b) (fun y => 1 ≤ y.1 ∧ y.1 ≤ 65 ∧ 0 ≤ y.2.1 ∧ y.2.1 ≤ 65 ∧ p ≤ y.2.2 ∧ y.2.2 ≤ p + 10) ?_ ?_
  · simp only [go_sem, ↓reduceIte, reduceCtorEq, Nat.reduceAdd, Nat.reduceMul, Nat.reduceEqDiff, Nat.reduceSub, Nat.reduceLT, Nat.reduceLeDiff, Nat.reduceAnd, Nat.reduceShiftRight, Nat.reduceBEq, Nat.reduceBNe, Nat.reduceBneDiff, Nat.reduceBeqDiff, Int.reduceToNat, Int.reduceLE, Int.reduceLT, Int.reduceEq]
    refine ⟨by omega, ?_⟩; rintro v q' g
    refine ite_intro (fun c => ?_) fun c => ?_
    · refine ⟨by omega, ?_⟩; rintro v2 q2 g2
      have w0 : IntKind.i64.wrap (64 + v2) = 64 + v2 := wrap64 (by omega) (by omega)
      simp only [w0]
      (repeat' first | (refine ite_intro (fun _ => ?_) (fun _ => ?_)) | (refine And.intro ?_ ?_) | intro _) <;> first | omega | exact ⟨(_, _, _), by dsimp only; omega, rfl⟩ | exact ⟨(_, _, _), by dsimp only; omega, rfl, rfl⟩
    · (repeat' first | (refine ite_intro (fun _ => ?_) (fun _ => ?_)) | (refine And.intro ?_ ?_) | intro _) <;> first | omega | exact ⟨(_, _, _), by dsimp only; omega, rfl⟩ | exact ⟨(_, _, _), by dsimp only; omega, rfl, rfl⟩
  clear j
  rintro ⟨r, n, q⟩ j
  dsimp only at j
  simp only [go_sem, ↓reduceIte, reduceCtorEq, Nat.reduceAdd, Nat.reduceMul, Nat.reduceEqDiff, Nat.reduceSub, Nat.reduceLT, Nat.reduceLeDiff, Nat.reduceAnd, Nat.reduceShiftRight, Nat.reduceBEq, Nat.reduceBNe, Nat.reduceBneDiff, Nat.reduceBeqDiff, Int.reduceToNat, Int.reduceLE, Int.reduceLT, Int.reduceEq]
  refine CutS.intro (H := H_spec_l6Bag) ok_H_spec_l6Bag (by kernel_rfl) (by kernel_rfl) (s_b12 b) (fun y => y.2.1.length ≤ 65 ∧ p ≤ y.2.2 ∧ y.2.2 ≤ p + 1500 ∧ ∀ x ∈ y.2.1, x.2.2.size ≤ 601) ?_ ?_
  · simp only [go_sem, ↓reduceIte, reduceCtorEq, Nat.reduceAdd, Nat.reduceMul, Nat.reduceEqDiff, Nat.reduceSub, Nat.reduceLT, Nat.reduceLeDiff, Nat.reduceAnd, Nat.reduceShiftRight, Nat.reduceBEq, Nat.reduceBNe, Nat.reduceBneDiff, Nat.reduceBeqDiff, Int.reduceToNat, Int.reduceLE, Int.reduceLT, Int.reduceEq]
    refine LoopV.go (H := H_spec_l6Bag) ok_H_spec_l6Bag (by kernel_rfl) (s_bl b r n) (fun y => n.toNat - y.2.1) (fun y => y.1.length = y.2.1 ∧ (y.2.1 : Int) ≤ n ∧ p ≤ y.2.2 ∧ y.2.2 ≤ p + 10 + 20 * y.2.1 ∧ ∀ x ∈ y.1, x.2.2.size ≤ 601) ?_ ([], 0, q) ⟨rfl, by dsimp only; omega, by dsimp only; omega, by dsimp only; omega, by simp⟩
    rintro ⟨ls, i, q'⟩ ⟨c1, c2, c3, c4, c5⟩
    dsimp only at c1 c2 c3 c4 c5
    have hw : IntKind.i64.wrap ((i : Int) + 1) = ((i + 1 : Nat) : Int) := by rw [wrap64] <;> omega
    by_cases hlt : (i : Int) < n
    · simp only [go_sem, ↓reduceIte, reduceCtorEq, Nat.reduceAdd, Nat.reduceMul, Nat.reduceEqDiff, Nat.reduceSub, Nat.reduceLT, Nat.reduceLeDiff, Nat.reduceAnd, Nat.reduceShiftRight, Nat.reduceBEq, Nat.reduceBNe, Nat.reduceBneDiff, Nat.reduceBeqDiff, Int.reduceToNat, Int.reduceLE, Int.reduceLT, Int.reduceEq, hlt, hw]
      refine ⟨by omega, fun l q2 g => ⟨by omega, (ls ++ [l], i + 1, q2), ⟨by simp [c1], by dsimp only; omega, by dsimp only; omega, by dsimp only; omega, ?_⟩, by dsimp only; omega, ?_⟩⟩
      · intro x hx
        rcases List.mem_append.1 hx with h | h
        · exact c5 x h
        · rw [List.mem_singleton.1 h]; exact g.2.2
      · simp [cLetter]; rfl
    · simp only [go_sem, ↓reduceIte, reduceCtorEq, Nat.reduceAdd, Nat.reduceMul, Nat.reduceEqDiff, Nat.reduceSub, Nat.reduceLT, Nat.reduceLeDiff, Nat.reduceAnd, Nat.reduceShiftRight, Nat.reduceBEq, Nat.reduceBNe, Nat.reduceBneDiff, Nat.reduceBeqDiff, Int.reduceToNat, Int.reduceLE, Int.reduceLT, Int.reduceEq, hlt]
      exact ⟨(r, ls, q'), ⟨by dsimp only; omega, c3, by dsimp only; omega, c5⟩, rfl⟩
  clear j
  rintro ⟨r, ls, q⟩ ⟨j1, j2, j3, j4⟩
  dsimp only at j1 j2 j3 j4
  simp only [go_sem, ↓reduceIte, reduceCtorEq, Nat.reduceAdd, Nat.reduceMul, Nat.reduceEqDiff, Nat.reduceSub, Nat.reduceLT, Nat.reduceLeDiff, Nat.reduceAnd, Nat.reduceShiftRight, Nat.reduceBEq, Nat.reduceBNe, Nat.reduceBneDiff, Nat.reduceBeqDiff, Int.reduceToNat, Int.reduceLE, Int.reduceLT, Int.reduceEq]
  refine ⟨by omega, ?_⟩; rintro k q1 g1
  refine CutS.intro (H := H_spec_l6Bag) ok_H_spec_l6Bag (by kernel_rfl) (by kernel_rfl) (s_b15 b) (fun y => y.2.1.length ≤ 66 ∧ p ≤ y.2.2.2 ∧ y.2.2.2 ≤ p + 1600 ∧ ∀ x ∈ y.2.1, x.2.2.size ≤ 601) ?_ ?_
  · simp only [go_sem, ↓reduceIte, reduceCtorEq, Nat.reduceAdd, Nat.reduceMul, Nat.reduceEqDiff, Nat.reduceSub, Nat.reduceLT, Nat.reduceLeDiff, Nat.reduceAnd, Nat.reduceShiftRight, Nat.reduceBEq, Nat.reduceBNe, Nat.reduceBneDiff, Nat.reduceBeqDiff, Int.reduceToNat, Int.reduceLE, Int.reduceLT, Int.reduceEq]
    refine ite_intro (fun c => ?_) fun c => ?_
    · refine ⟨by omega, fun l q2 g => ⟨by omega, (r, ls ++ [l], k, q2), ⟨by simp; omega, by dsimp only; omega, by dsimp only; omega, ?_⟩, ?_⟩⟩
      · intro x hx
        rcases List.mem_append.1 hx with h | h
        · exact j4 x h
        · rw [List.mem_singleton.1 h]; exact g.2.2
      · simp [cLetter]; rfl
    · exact ⟨(r, ls, k, q1), ⟨by dsimp only; omega, by dsimp only; omega, by dsimp only; omega, j4⟩, rfl⟩
  clear j1 j2 j3 j4 g1
  rintro ⟨r, ls, k, q⟩ ⟨j1, j2, j3, j4⟩
  dsimp only at j1 j2 j3 j4
  simp only [go_sem, ↓reduceIte, reduceCtorEq, Nat.reduceAdd, Nat.reduceMul, Nat.reduceEqDiff, Nat.reduceSub, Nat.reduceLT, Nat.reduceLeDiff, Nat.reduceAnd, Nat.reduceShiftRight, Nat.reduceBEq, Nat.reduceBNe, Nat.reduceBneDiff, Nat.reduceBeqDiff, Int.reduceToNat, Int.reduceLE, Int.reduceLT, Int.reduceEq]
  refine CutS.intro (H := H_spec_l6Bag) ok_H_spec_l6Bag (by kernel_rfl) (by kernel_rfl) (s_b17 b) (fun y => y.2.1.length ≤ 66 ∧ p ≤ y.2.2 ∧ y.2.2 ≤ p + 2000 ∧ ∀ x ∈ y.2.1, x.2.2.size ≤ 601) ?_ ?_
  · simp only [go_sem, ↓reduceIte, reduceCtorEq, Nat.reduceAdd, Nat.reduceMul, Nat.reduceEqDiff, Nat.reduceSub, Nat.reduceLT, Nat.reduceLeDiff, Nat.reduceAnd, Nat.reduceShiftRight, Nat.reduceBEq, Nat.reduceBNe, Nat.reduceBneDiff, Nat.reduceBeqDiff, Int.reduceToNat, Int.reduceLE, Int.reduceLT, Int.reduceEq]
    refine ite_intro (fun c => ?_) fun c => ?_
    · refine ⟨by omega, ?_⟩; rintro v q2 g2
      exact ⟨(_, ls, q2), ⟨by dsimp only; omega, by dsimp only; omega, by dsimp only; omega, j4⟩, rfl⟩
    · exact ⟨(r, ls, q), ⟨by dsimp only; omega, by dsimp only; omega, by dsimp only; omega, j4⟩, rfl⟩
  clear j1 j2 j3 j4
  rintro ⟨r, ls, q⟩ j
  dsimp only at j
  simp only [go_sem, ↓reduceIte, reduceCtorEq, Nat.reduceAdd, Nat.reduceMul, Nat.reduceEqDiff, Nat.reduceSub, Nat.reduceLT, Nat.reduceLeDiff, Nat.reduceAnd, Nat.reduceShiftRight, Nat.reduceBEq, Nat.reduceBNe, Nat.reduceBneDiff, Nat.reduceBeqDiff, Int.reduceToNat, Int.reduceLE, Int.reduceLT, Int.reduceEq]
  exact ⟨((r, ls), q), ⟨j.2.1, j.2.2.1, j.1, j.2.2.2⟩, rfl, rfl⟩
abbrev RBag : FR := .rd0 (CE.st cBag).enc 2000 (fun t => t.2.length ≤ 66 ∧ ∀ x ∈ t.2, x.2.2.size ≤ 601)
attribute [go_sem] RBag
theorem ok_spec_l6Bag : RBag.ok Try.prog 30 := FR.rd0_ok fun b p h0 h1 => by
  obtain ⟨t, ⟨g1, g2, g3, g4⟩, h⟩ := f_l6Bag b p h0 h1
  exact ⟨t, ⟨g1, g2, g3, g4⟩, h⟩

/-- What is drawn by a code: of which only something is said. -/
abbrev FR.dr {R : Type} (r : CE R) (post : R → Prop) : FR where
  md := []
  m args rin := match args, rin with
    | [e1], [] => match (eList cU8).dec e1 with
      | some b => some (b.length ≤ 1048576, fun k => ∀ v, post v → k (r.enc v) [])
      | none => none
    | _, _ => none
theorem FR.dr_ok {P : Program} {g : FuncId} {R : Type} {r : CE R} {post : R → Prop} (h : ∀ (b : List UInt8), b.length ≤ 1048576 → ∃ v : R, post v ∧ VFun P g [(eList cU8).enc b] [] (r.enc v) []) : (FR.dr r post).ok P g := by
  intro args rin pre W hm hp k hk
  simp only [FR.dr] at hm
  split at hm
  · split at hm
    · rename_i h1
      cases hm
      obtain ⟨v, h3, h4⟩ := h _ hp
      exact ⟨_, _, h4.weaken (.cons (CE.ok _ _ _ h1) .nil), hk _ h3⟩
    · cases hm
  · cases hm
abbrev eBagL : CE (Bag × Letter) := eT2 (CE.st cBag) (CE.st cLetter) (st_x _) (st_x _)
abbrev eBagI : CE (Bag × Int) := eT2 (CE.st cBag) (eInt .i64) (st_x _) (one_x _ _)
attribute [go_sem] eBagL eBagI

def H_spec_DrawBagSend : Hint := { fs := [(29, MOpen)], kp := [(0, [0]), (1, [0, 2, 3]), (2, [2, 3, 4]), (3, [2, 3, 4, 5])], an := [(3, [0, 0, 2, 7, 15])], rs := [(30, RBag), (38, RLetter)] }
attribute [go_sem] H_spec_DrawBagSend
theorem ok_H_spec_DrawBagSend : H_spec_DrawBagSend.ok Try.prog := AllOk.okR (.cons ok_spec_l1Open .nil) (.cons ok_spec_l6Bag (.cons ok_spec_l6Letter .nil)) mix
theorem f_DrawBagSend (b : List UInt8) (h : b.length ≤ 1048576) : ∃ t : Bag × Letter, (t.1.2.length ≤ 66 ∧ (∀ x ∈ t.1.2, x.2.2.size ≤ 601) ∧ t.2.2.2.size ≤ 601) ∧ VFun Try.prog 12 [(eList cU8).enc b] [] (eBagL.enc t) [] := by
  refine VFun_rel (n := 13) (rs := [.cell 2 25, .cell 3 32]) Try.func12 rfl rfl rfl rfl H_spec_DrawBagSend ok_H_spec_DrawBagSend  (rin := []) (T := Bag × Letter) eBagL (fun t => t) (fun t => []) (fun t => t.1.2.length ≤ 66 ∧ (∀ x ∈ t.1.2, x.2.2.size ≤ 601) ∧ t.2.2.2.size ≤ 601) (Nat.le_of_ble_eq_true rfl) (by kernel_rfl) ?_
  simp only [go_sem, ↓reduceIte, reduceCtorEq, Nat.reduceAdd, Nat.reduceMul, Nat.reduceEqDiff, Nat.reduceSub, Nat.reduceLT, Nat.reduceLeDiff, Nat.reduceAnd, Nat.reduceShiftRight, Nat.reduceBEq, Nat.reduceBNe, Nat.reduceBneDiff, Nat.reduceBeqDiff, Int.reduceToNat, Int.reduceLE, Int.reduceLT, Int.reduceEq]
  exact ⟨h, by omega, fun v q g => ⟨by omega, fun l q2 g2 => ⟨(v, l), ⟨g.2.2.1, g.2.2.2, g2.2.2⟩, rfl⟩⟩⟩
abbrev RDrawBagSend : FR := .dr eBagL (fun t => t.1.2.length ≤ 66 ∧ (∀ x ∈ t.1.2, x.2.2.size ≤ 601) ∧ t.2.2.2.size ≤ 601)
attribute [go_sem] RDrawBagSend
theorem ok_spec_DrawBagSend : RDrawBagSend.ok Try.prog 12 := FR.dr_ok fun b h => f_DrawBagSend b h

def H_spec_DrawBagTake : Hint := { fs := [(29, MOpen)], kp := [(0, [0]), (1, [0, 2]), (2, [2, 4]), (3, [2, 4, 5])], an := [(3, [0, 0, 2, 7, 15])], rs := [(30, RBag), (31, RPlace)] }
attribute [go_sem] H_spec_DrawBagTake
theorem ok_H_spec_DrawBagTake : H_spec_DrawBagTake.ok Try.prog := AllOk.okR (.cons ok_spec_l1Open .nil) (.cons ok_spec_l6Bag (.cons ok_spec_l6Place .nil)) mix
theorem f_DrawBagTake (b : List UInt8) (h : b.length ≤ 1048576) : ∃ t : Bag × Int, (t.1.2.length ≤ 66 ∧ (∀ x ∈ t.1.2, x.2.2.size ≤ 601)) ∧ VFun Try.prog 7 [(eList cU8).enc b] [] (eBagI.enc t) [] := by
  refine VFun_rel (n := 13) (rs := [.cell 2 25, .tmp 3]) Try.func7 rfl rfl rfl rfl H_spec_DrawBagTake ok_H_spec_DrawBagTake  (rin := []) (T := Bag × Int) eBagI (fun t => t) (fun t => []) (fun t => t.1.2.length ≤ 66 ∧ (∀ x ∈ t.1.2, x.2.2.size ≤ 601)) (Nat.le_of_ble_eq_true rfl) (by kernel_rfl) ?_
  simp only [go_sem, ↓reduceIte, reduceCtorEq, Nat.reduceAdd, Nat.reduceMul, Nat.reduceEqDiff, Nat.reduceSub, Nat.reduceLT, Nat.reduceLeDiff, Nat.reduceAnd, Nat.reduceShiftRight, Nat.reduceBEq, Nat.reduceBNe, Nat.reduceBneDiff, Nat.reduceBeqDiff, Int.reduceToNat, Int.reduceLE, Int.reduceLT, Int.reduceEq]
  exact ⟨h, by omega, fun v q g => ⟨by omega, fun l q2 g2 => ⟨(v, l), ⟨g.2.2.1, g.2.2.2⟩, rfl⟩⟩⟩
abbrev RDrawBagTake : FR := .dr eBagI (fun t => t.1.2.length ≤ 66 ∧ ∀ x ∈ t.1.2, x.2.2.size ≤ 601)
attribute [go_sem] RDrawBagTake
theorem ok_spec_DrawBagTake : RDrawBagTake.ok Try.prog 7 := FR.dr_ok fun b h => f_DrawBagTake b h

theorem wrapU8_any (t : Int) : ∃ y : UInt8, IntKind.u8.wrap t = (y.toNat : Int) := by
  refine ⟨UInt8.ofNat (IntKind.u8.wrap t).toNat, ?_⟩
  simp [IntKind.wrap, IntKind.bits, IntKind.signed]; omega
abbrev eByte : CE UInt8 := CE.one cU8 cU8_n
attribute [go_sem] eByte

def H_laws_at : Hint := { fs := [], kp := [(0, [0, 1]), (1, [0, 1]), (2, [1]), (3, [0, 1]), (4, [0, 1]), (5, [0, 1])], an := [(5, [0, 0, 0, 4, 14, 31, 63, 127, 0, 0, 512, 1536, 0, 4096, 15872, 32512, 65280, 131071, 0, 262144, 1048575, 2097151])] }
attribute [go_sem] H_laws_at
theorem ok_H_laws_at : H_laws_at.ok Try.prog := AllOk.okR .nil .nil mix
theorem f_at (b : List UInt8) (i : Int) (h : b.length ≤ 1048576) (h0 : 0 ≤ i) (h1 : i ≤ 1000) : ∃ t : UInt8, True ∧ VFun Try.prog 15 [(eList cU8).enc b, (eInt .i64).enc i] [] (eByte.enc t) [] := by
  refine VFun_rel (n := 40) (rs := [.tmp 4]) Try.func15 rfl rfl rfl rfl H_laws_at ok_H_laws_at  (rin := []) (T := UInt8) eByte (fun t => t) (fun t => []) (fun t => True) (Nat.le_of_ble_eq_true rfl) (by kernel_rfl) ?_
  obtain ⟨i, rfl⟩ := Int.eq_ofNat_of_zero_le h0
  have fin : ∀ t : Int, ∃ y : UInt8, cU8.dec [C.v (.int .u8 (IntKind.u8.wrap t))] = some y := fun t => by
    obtain ⟨y, hy⟩ := wrapU8_any t
    exact ⟨y, by rw [hy]; exact cU8_dec y⟩
  by_cases hb : b.length = 0
  · have hb' : ((b.length : Int) = 0) = True := eq_true (by omega)
    simp only [go_sem, ↓reduceIte, reduceCtorEq, Nat.reduceAdd, Nat.reduceMul, Nat.reduceEqDiff, Nat.reduceSub, Nat.reduceLT, Nat.reduceLeDiff, Nat.reduceAnd, Nat.reduceShiftRight, Nat.reduceBEq, Nat.reduceBNe, Nat.reduceBneDiff, Nat.reduceBeqDiff, Int.reduceToNat, Int.reduceLE, Int.reduceLT, Int.reduceEq, hb']
    exact fin _
  have hb' : ((b.length : Int) = 0) = False := eq_false (by omega)
  by_cases hi : i < b.length
  · have hi' : ((i : Int) < (b.length : Int)) = True := eq_true (by omega)
    have hx : b[i]? = some b[i] := List.getElem?_eq_getElem hi
    simp only [go_sem, ↓reduceIte, reduceCtorEq, Nat.reduceAdd, Nat.reduceMul, Nat.reduceEqDiff, Nat.reduceSub, Nat.reduceLT, Nat.reduceLeDiff, Nat.reduceAnd, Nat.reduceShiftRight, Nat.reduceBEq, Nat.reduceBNe, Nat.reduceBneDiff, Nat.reduceBeqDiff, Int.reduceToNat, Int.reduceLE, Int.reduceLT, Int.reduceEq, hb', hi', hx]
    exact ⟨_, rfl⟩
  · have hi' : ((i : Int) < (b.length : Int)) = False := eq_false (by omega)
    have i1 : i % b.length < b.length := Nat.mod_lt _ (by omega)
    have i2 : (i * 5 + 1) % b.length < b.length := Nat.mod_lt _ (by omega)
    have hx1 : b[i % b.length]? = some b[i % b.length] := List.getElem?_eq_getElem i1
    have hx2 : b[(i * 5 + 1) % b.length]? = some b[(i * 5 + 1) % b.length] := List.getElem?_eq_getElem i2
    have t1 : (i : Int).tmod (b.length : Int) = ((i % b.length : Nat) : Int) := by rw [Int.tmod_eq_emod_of_nonneg (by omega)]; simp
    have t2 : ((i * 5 + 1 : Nat) : Int).tmod (b.length : Int) = (((i * 5 + 1) % b.length : Nat) : Int) := by rw [Int.tmod_eq_emod_of_nonneg (by omega)]; simp
    have w1 : IntKind.i64.wrap ((i : Int) * 5) = ((i * 5 : Nat) : Int) := by rw [wrap64] <;> omega
    have w2 : IntKind.i64.wrap (((i * 5 : Nat) : Int) + 1) = ((i * 5 + 1 : Nat) : Int) := by rw [wrap64] <;> omega
    simp only [go_sem, ↓reduceIte, reduceCtorEq, Nat.reduceAdd, Nat.reduceMul, Nat.reduceEqDiff, Nat.reduceSub, Nat.reduceLT, Nat.reduceLeDiff, Nat.reduceAnd, Nat.reduceShiftRight, Nat.reduceBEq, Nat.reduceBNe, Nat.reduceBneDiff, Nat.reduceBeqDiff, Int.reduceToNat, Int.reduceLE, Int.reduceLT, Int.reduceEq, hb', hi', hx1, hx2, t1, t2, w1, w2]
    exact fin _
abbrev RAt : FR where
  md := []
  m args rin := match args, rin with
    | [e1, e2], [] => match (eList cU8).dec e1, (eInt .i64).dec e2 with
      | some b, some i => some (b.length ≤ 1048576 ∧ 0 ≤ i ∧ i ≤ 1000, fun k => ∀ y : UInt8, k (eByte.enc y) [])
      | _, _ => none
    | _, _ => none
attribute [go_sem] RAt
theorem okR_at {P : Program} {g : FuncId} (h : ∀ (b : List UInt8) (i : Int), b.length ≤ 1048576 → 0 ≤ i → i ≤ 1000 → ∃ t : UInt8, True ∧ VFun P g [(eList cU8).enc b, (eInt .i64).enc i] [] (eByte.enc t) []) : RAt.ok P g := by
  intro args rin pr W hm hp k hk
  simp only [RAt] at hm
  split at hm
  · split at hm
    · rename_i e1 e2 _ _ s n h1 h2
      cases hm
      obtain ⟨t, _, h7⟩ := h s n hp.1 hp.2.1 hp.2.2
      exact ⟨_, _, h7.weaken (.cons (CE.ok _ _ _ h1) (.cons (CE.ok _ _ _ h2) .nil)), hk t⟩
    · cases hm
  · cases hm
theorem ok_laws_at : RAt.ok Try.prog 15 := okR_at fun b i h h0 h1 => f_at b i h h0 h1

def H_laws_sameBag : Hint := { fs := [], kp := [(0, [0, 1]), (1, [2, 3]), (2, []), (3, [2, 3]), (4, [2, 3, 5]), (6, [2, 3, 5]), (7, []), (5, [2, 3, 5]), (8, [])], an := [(6, [0, 1, 0, 7, 15, 0, 32, 0, 224, 480, 1023])] }
attribute [go_sem] H_laws_sameBag
theorem ok_H_laws_sameBag : H_laws_sameBag.ok Try.prog := AllOk.okR .nil .nil mix
theorem f_sameBag (x y : Bag) (hl : x.2.length ≤ 1000000) : VFun Try.prog 26 [(CE.st cBag).enc x, (CE.st cBag).enc y] [] (eBool.enc (decide (x = y))) [] := by
  obtain ⟨r, xs⟩ := x
  obtain ⟨r', ys⟩ := y
  dsimp only at hl
  refine VFun_pure (n := 38) (rs := [.tmp 4]) Try.func26 rfl rfl rfl rfl H_laws_sameBag ok_H_laws_sameBag _ _ (Nat.le_of_ble_eq_true rfl) (by kernel_rfl) ?_
  simp only [go_sem, ↓reduceIte, reduceCtorEq, Nat.reduceAdd, Nat.reduceMul, Nat.reduceEqDiff, Nat.reduceSub, Nat.reduceLT, Nat.reduceLeDiff, Nat.reduceAnd, Nat.reduceShiftRight, Nat.reduceBEq, Nat.reduceBNe, Nat.reduceBneDiff, Nat.reduceBeqDiff, Int.reduceToNat, Int.reduceLE, Int.reduceLT, Int.reduceEq]
  refine ite_intro (fun h1 => ite_intro (fun h2 => ?_) fun h2 => ?_) fun h1 => ?_
  · have : xs ≠ ys := fun e => h2 (by rw [e])
    simp [this]
  · have hlen : xs.length = ys.length := by omega
    refine LoopV.go (H := H_laws_sameBag) ok_H_laws_sameBag (by kernel_rfl) (fun i : Nat => ⟨[(2, .x (.o (.p (1, 100) 0 0 1))), (3, .x (.o (.p (1, 101) 0 0 1))), (5, sc (.int .i64 i))],
      [((1, 100), .bx [[.c (.v (.int .i64 r)), .c (.s (xs.map cLetter.enc))]]), ((1, 101), .bx [[.c (.v (.int .i64 r')), .c (.s (ys.map cLetter.enc))]])], 2⟩)
      (fun i => xs.length - i) (fun i => i ≤ xs.length ∧ ∀ j, j < i → xs[j]? = ys[j]?) ?_ 0 ⟨Nat.zero_le _, fun j h => by omega⟩
    intro i ⟨hi, hall⟩
    rcases Nat.lt_or_ge i xs.length with hlt | hge
    · have hx : xs[i]? = some xs[i] := List.getElem?_eq_getElem hlt
      have hy : ys[i]? = some (ys[i]'(by omega)) := List.getElem?_eq_getElem (by omega)
      generalize xs[i] = x at hx
      generalize ys[i]'(by omega) = y at hy
      obtain ⟨a, b, c⟩ := x
      obtain ⟨a', b', c'⟩ := y
      have hw : IntKind.i64.wrap ((i : Int) + 1) = ((i + 1 : Nat) : Int) := by rw [wrap64] <;> omega
      have hlt' : ((i : Int) < (xs.length : Int)) = True := eq_true (by omega)
      simp only [go_sem, ↓reduceIte, reduceCtorEq, Nat.reduceAdd, Nat.reduceMul, Nat.reduceEqDiff, Nat.reduceSub, Nat.reduceLT, Nat.reduceLeDiff, Nat.reduceAnd, Nat.reduceShiftRight, Nat.reduceBEq, Nat.reduceBNe, Nat.reduceBneDiff, Nat.reduceBeqDiff, Int.reduceToNat, Int.reduceLE, Int.reduceLT, Int.reduceEq, hx, hy, hw, hlt']
      refine ite_intro (fun h3 => ?_) fun h3 => ⟨i + 1, ⟨by omega, fun j hj => ?_⟩, by omega, rfl⟩
      · have : xs ≠ ys := fun e => by
          rw [e, hy] at hx
          cases hx
          simp at h3
        simp [this]
      · rcases Nat.lt_or_ge j i with h4 | h4
        · exact hall j h4
        · rw [show j = i by omega, hx, hy]
          simp at h3
          simp [h3]
    · have hlt' : ((i : Int) < (xs.length : Int)) = False := eq_false (by omega)
      have : xs = ys := List.ext_getElem? fun j => by
        rcases Nat.lt_or_ge j i with h4 | h4
        · exact hall j h4
        · rw [List.getElem?_eq_none (by omega), List.getElem?_eq_none (by omega)]
      simp only [go_sem, ↓reduceIte, reduceCtorEq, Nat.reduceAdd, Nat.reduceMul, Nat.reduceEqDiff, Nat.reduceSub, Nat.reduceLT, Nat.reduceLeDiff, Nat.reduceAnd, Nat.reduceShiftRight, Nat.reduceBEq, Nat.reduceBNe, Nat.reduceBneDiff, Nat.reduceBeqDiff, Int.reduceToNat, Int.reduceLE, Int.reduceLT, Int.reduceEq, hlt']
      simp [this, h1]
  · simp [h1]
abbrev MSameBag : FM := .f2 (CE.st cBag) (CE.st cBag) eBool.enc (fun x y => decide (x = y)) (fun x _ => x.2.length ≤ 1000000)
attribute [go_sem] MSameBag
theorem ok_laws_sameBag : MSameBag.ok Try.prog 26 := FM.f2_ok fun x y h => f_sameBag x y h

end Go.Proofs.YtobfeplphdnhfaaW.V

