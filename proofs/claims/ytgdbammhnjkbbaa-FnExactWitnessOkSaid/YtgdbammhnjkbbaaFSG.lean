/- Functions: witnesses. No condition but each theorem's own. -/
import Derived.Test.YtgdbammhnjkbbaaFSE
namespace Go.Proofs.YtgdbammhnjkbbaaW.V
open Go Go.Proofs
set_option linter.unusedSimpArgs false
set_option linter.unusedVariables false
set_option maxRecDepth 8000
set_option maxHeartbeats 4000000

set_option synthInstance.maxSize 1000

def H_laws_toWish : Hint := { fs := [(67, MToPoint)], kp := [(0, [0]), (1, [1, 2]), (2, [1, 2, 3]), (3, [1, 2, 3]), (4, [1, 2, 3]), (5, [2, 3])], an := [] }
attribute [go_sem] H_laws_toWish
theorem ok_H_laws_toWish : H_laws_toWish.ok Try.prog := AllOk.okR (.cons ok_laws_toPoint .nil) .nil mix
theorem f_toWish (x : Wish) : VFun Try.prog 55 [(CE.st cWish).enc x] [] ((CE.st cWish).enc x) [] := by
  refine VFun_pure (n := 15) (rs := [.cell 2 81]) Try.func55 rfl rfl rfl rfl H_laws_toWish ok_H_laws_toWish _ _ (Nat.le_of_ble_eq_true rfl) (by kernel_rfl) ?_
  simp only [go_sem, ↓reduceIte, reduceCtorEq, Nat.reduceAdd, Nat.reduceMul, Nat.reduceEqDiff, Nat.reduceSub, Nat.reduceLT, Nat.reduceLeDiff, Nat.reduceAnd, Nat.reduceShiftRight, Nat.reduceBEq, Nat.reduceBNe, Nat.reduceBneDiff, Nat.reduceBeqDiff, Int.reduceToNat, Int.reduceLE, Int.reduceLT, Int.reduceEq]
abbrev MToWish : FM := .f1 (CE.st cWish) (CE.st cWish).enc (fun x => x) (fun _ => True)
attribute [go_sem] MToWish
theorem ok_laws_toWish : MToWish.ok Try.prog 55 := FM.f1_ok fun x _ => f_toWish x

/-- A list that is filled. -/
def zWish : Wish := (0, 0, 0, 0, 0, 0, 0)
def fillW (xs : List Wish) (i : Nat) : List Wish := xs.take i ++ List.replicate (xs.length - i) zWish
theorem fillW_len (xs : List Wish) {i : Nat} (h : i ≤ xs.length) : (fillW xs i).length = xs.length := by
  rw [fillW, List.length_append, List.length_take, List.length_replicate]; omega
theorem fillW_n (xs : List Wish) : fillW xs xs.length = xs := by simp [fillW]
theorem fillW_set (xs : List Wish) {i : Nat} {x : Wish} (h : xs[i]? = some x) : (fillW xs i).set i x = fillW xs (i + 1) := by
  have hlt : i < xs.length := (List.getElem?_eq_some_iff.1 h).1
  have ht : (xs.take i).length = i := by rw [List.length_take]; omega
  rw [fillW, List.set_append_right _ _ (by omega), ht, Nat.sub_self, fillW, List.take_add_one, h]
  have e : xs.length - i = (xs.length - (i + 1)) + 1 := by omega
  rw [e, List.replicate_succ, List.set_cons_zero, List.append_assoc]
  rfl

def H_laws_toWishS : Hint := { fs := [(55, MToWish)], kp := [(0, [0]), (1, [0]), (2, [0, 3]), (3, [0, 3, 4]), (5, [0, 3, 4]), (4, [0, 3, 4]), (6, [3])], an := [] }
attribute [go_sem] H_laws_toWishS
theorem ok_H_laws_toWishS : H_laws_toWishS.ok Try.prog := AllOk.okR (.cons ok_laws_toWish .nil) .nil mix
theorem f_toWishS (xs : List Wish) (h : xs.length ≤ 1048576) : VFun Try.prog 40 [(eList cWish).enc xs] [] ((eList cWish).enc xs) [] := by
  have hml := fun i (h : i ≤ xs.length) => fillW_len xs h
  refine VFun_pure (n := 23) (rs := [.tmp 2]) Try.func40 rfl rfl rfl rfl H_laws_toWishS ok_H_laws_toWishS _ _ (Nat.le_of_ble_eq_true rfl) (by kernel_rfl) ?_
  have h0 : List.replicate xs.length ([.v (.int .i64 0), .v (.int .i64 0), .v (.int .i64 0), .v (.int .u64 0), .v (.int .u64 0), .v (.int .u64 0), .v (.int .u64 0)] : List C) = (fillW xs 0).map cWish.enc := by
    rw [fillW, List.take_zero, List.nil_append, Nat.sub_zero, List.map_replicate]; rfl
  have hz := hml 0 (Nat.zero_le _)
  simp only [go_sem, ↓reduceIte, reduceCtorEq, Nat.reduceAdd, Nat.reduceMul, Nat.reduceEqDiff, Nat.reduceSub, Nat.reduceLT, Nat.reduceLeDiff, Nat.reduceAnd, Nat.reduceShiftRight, Nat.reduceBEq, Nat.reduceBNe, Nat.reduceBneDiff, Nat.reduceBeqDiff, Int.reduceToNat, Int.reduceLE, Int.reduceLT, Int.reduceEq]
  refine ⟨⟨by omega, by omega, by omega⟩, ?_⟩
  refine LoopV.go (H := H_laws_toWishS) ok_H_laws_toWishS (by kernel_rfl) (fun i : Nat => ⟨[(0, .x (.o (.c (.s (xs.map cWish.enc))))), (3, .x (.o (.h (1, 100) 0 (fillW xs i).length (fillW xs i).length))), (4, sc (.int .i64 i))], [((1, 100), .row 7 ((fillW xs i).map cWish.enc))], 2⟩) (fun i => xs.length - i) (fun i => i ≤ xs.length) ?_ 0 (Nat.zero_le _) (by rw [hz]; exact congrArg (fun r => (⟨_, [((1, 100), Root.row 7 r)], 2⟩ : LS)) h0)
  intro i hi
  have hmi := hml i hi
  have w1 : IntKind.i64.wrap ((i : Int) + 1) = ((i + 1 : Nat) : Int) := by rw [wrap64] <;> omega
  by_cases hlt : i < xs.length
  · obtain ⟨⟨a, b, c, d1, d2, d3, d4⟩, hx⟩ : ∃ r, xs[i]? = some r := ⟨_, List.getElem?_eq_getElem hlt⟩
    have hlt2 : i < (fillW xs i).length := by omega
    obtain ⟨⟨a', b', c', d1', d2', d3', d4'⟩, hy⟩ : ∃ r, (fillW xs i)[i]? = some r := ⟨_, List.getElem?_eq_getElem hlt2⟩
    have c1 : ((i : Int) < (xs.length : Int)) = True := eq_true (by omega)
    have c2 : ((i : Int) < ((fillW xs i).length : Int)) = True := eq_true (by omega)
    have hs := congrArg (List.map cWish.enc) (fillW_set xs hx)
    rw [List.map_set] at hs
    have hmj := hml (i + 1) (by omega)
    simp only [go_sem, ↓reduceIte, reduceCtorEq, Nat.reduceAdd, Nat.reduceMul, Nat.reduceEqDiff, Nat.reduceSub, Nat.reduceLT, Nat.reduceLeDiff, Nat.reduceAnd, Nat.reduceShiftRight, Nat.reduceBEq, Nat.reduceBNe, Nat.reduceBneDiff, Nat.reduceBeqDiff, Int.reduceToNat, Int.reduceLE, Int.reduceLT, Int.reduceEq, c1, c2, w1, eq_true hlt2, hx, hy, List.length_set, List.length_map, List.set_set]
    exact ⟨i + 1, by omega, by omega, by rw [hmi, hmj]; exact congrArg (fun r => (⟨_, [((1, 100), Root.row 7 r)], 2⟩ : LS)) hs⟩
  · have c1 : ((i : Int) < (xs.length : Int)) = False := eq_false (by omega)
    obtain rfl : i = xs.length := by omega
    simp only [go_sem, ↓reduceIte, reduceCtorEq, Nat.reduceAdd, Nat.reduceMul, Nat.reduceEqDiff, Nat.reduceSub, Nat.reduceLT, Nat.reduceLeDiff, Nat.reduceAnd, Nat.reduceShiftRight, Nat.reduceBEq, Nat.reduceBNe, Nat.reduceBneDiff, Nat.reduceBeqDiff, Int.reduceToNat, Int.reduceLE, Int.reduceLT, Int.reduceEq, c1]
    rw [fillW_n]
abbrev MToWishS : FM := .f1 (eList cWish) (eList cWish).enc (fun x => x) (fun x => x.length ≤ 1048576)
attribute [go_sem] MToWishS
theorem ok_laws_toWishS : MToWishS.ok Try.prog 40 := FM.f1_ok fun x h => f_toWishS x h

def H_laws_toWitness : Hint := { fs := [(9, MToDisk), (40, MToWishS)], kp := [(0, [0]), (1, [1, 2]), (2, [1, 2, 3]), (3, [1, 2, 3]), (4, [2, 3])], an := [] }
attribute [go_sem] H_laws_toWitness
theorem ok_H_laws_toWitness : H_laws_toWitness.ok Try.prog := AllOk.okR (.cons ok_laws_toDisk (.cons ok_laws_toWishS .nil)) .nil mix
theorem f_toWitness (x : Witness) (h : x.2.length ≤ 1048576) : VFun Try.prog 17 [(CE.st cWitness).enc x] [] ((CE.st cWitness).enc x) [] := by
  obtain ⟨d, ws⟩ := x
  dsimp only at h
  refine VFun_pure (n := 13) (rs := [.cell 2 48]) Try.func17 rfl rfl rfl rfl H_laws_toWitness ok_H_laws_toWitness _ _ (Nat.le_of_ble_eq_true rfl) (by kernel_rfl) ?_
  simp only [go_sem, ↓reduceIte, reduceCtorEq, Nat.reduceAdd, Nat.reduceMul, Nat.reduceEqDiff, Nat.reduceSub, Nat.reduceLT, Nat.reduceLeDiff, Nat.reduceAnd, Nat.reduceShiftRight, Nat.reduceBEq, Nat.reduceBNe, Nat.reduceBneDiff, Nat.reduceBeqDiff, Int.reduceToNat, Int.reduceLE, Int.reduceLT, Int.reduceEq]
  exact h
abbrev MToWitness : FM := .f1 (CE.st cWitness) (CE.st cWitness).enc (fun x => x) (fun x => x.2.length ≤ 1048576)
attribute [go_sem] MToWitness
theorem ok_laws_toWitness : MToWitness.ok Try.prog 17 := FM.f1_ok fun x h => f_toWitness x h

def H_laws_eqWitness : Hint := { fs := [(42, MEqDisk), (43, MEq_wish)], kp := [(0, [0, 1]), (1, [2, 3]), (2, []), (3, [2, 3]), (4, []), (5, [])], an := [] }
attribute [go_sem] H_laws_eqWitness
theorem ok_H_laws_eqWitness : H_laws_eqWitness.ok Try.prog := AllOk.okR (.cons ok_laws_eqDisk (.cons ok_laws_eqWishS .nil)) .nil mix
theorem f_eqWitness (x y : Witness) (h : x.2.length ≤ maxLen) : VFun Try.prog 19 [(CE.st cWitness).enc x, (CE.st cWitness).enc y] [] (eBool.enc (decide (x = y))) [] := by
  obtain ⟨a, b⟩ := x
  obtain ⟨a', b'⟩ := y
  dsimp only at h
  refine VFun_pure (n := 17) (rs := [.tmp 4]) Try.func19 rfl rfl rfl rfl H_laws_eqWitness ok_H_laws_eqWitness _ _ (Nat.le_of_ble_eq_true rfl) (by kernel_rfl) ?_
  simp only [go_sem, ↓reduceIte, reduceCtorEq, Nat.reduceAdd, Nat.reduceMul, Nat.reduceEqDiff, Nat.reduceSub, Nat.reduceLT, Nat.reduceLeDiff, Nat.reduceAnd, Nat.reduceShiftRight, Nat.reduceBEq, Nat.reduceBNe, Nat.reduceBneDiff, Nat.reduceBeqDiff, Int.reduceToNat, Int.reduceLE, Int.reduceLT, Int.reduceEq]
  by_cases h1 : a = a' <;> by_cases h2 : b = b' <;> simp [h1, h2, h]
  all_goals (subst h2; exact h)
abbrev MEqWitness : FM := .f2 (CE.st cWitness) (CE.st cWitness) eBool.enc (fun x y => decide (x = y)) (fun x _ => x.2.length ≤ maxLen)
attribute [go_sem] MEqWitness
theorem ok_laws_eqWitness : MEqWitness.ok Try.prog 19 := FM.f2_ok fun x y h => f_eqWitness x y h

def H_laws_szWishS : Hint := { fs := [], kp := [(0, [0, 1]), (1, [0, 1]), (2, [1]), (3, []), (4, [1])], an := [] }
attribute [go_sem] H_laws_szWishS
theorem ok_H_laws_szWishS : H_laws_szWishS.ok Try.prog := AllOk.okR .nil .nil mix
theorem f_szWishS (xs : List Wish) (n : Int) (h : xs.length ≤ maxLen) (hn : n = 1048576) : VFun Try.prog 38 [(eList cWish).enc xs, (eInt .i64).enc n] [] ((eInt .i64).enc (if 1048576 < (xs.length : Int) then -1 else 1048576 - (xs.length : Int))) [] := by
  subst hn
  unfold maxLen at h
  have w1 : IntKind.i64.wrap (1048576 - (xs.length : Int)) = 1048576 - (xs.length : Int) := wrap64 (by omega) (by omega)
  refine VFun_pure (n := 12) (rs := [.tmp 4]) Try.func38 rfl rfl rfl rfl H_laws_szWishS ok_H_laws_szWishS _ _ (Nat.le_of_ble_eq_true rfl) (by kernel_rfl) ?_
  simp only [go_sem, ↓reduceIte, reduceCtorEq, Nat.reduceAdd, Nat.reduceMul, Nat.reduceEqDiff, Nat.reduceSub, Nat.reduceLT, Nat.reduceLeDiff, Nat.reduceAnd, Nat.reduceShiftRight, Nat.reduceBEq, Nat.reduceBNe, Nat.reduceBneDiff, Nat.reduceBeqDiff, Int.reduceToNat, Int.reduceLE, Int.reduceLT, Int.reduceEq, w1]
  refine ite_intro (fun h1 => ?_) fun h1 => ?_
  · rw [if_pos (by omega)]
  · rw [if_neg (by omega)]
abbrev MSzWishS : FM := .f2 (eList cWish) (eInt .i64) (eInt .i64).enc (fun xs _ => if 1048576 < (xs.length : Int) then -1 else 1048576 - (xs.length : Int)) (fun xs n => xs.length ≤ maxLen ∧ n = 1048576)
attribute [go_sem] MSzWishS
theorem ok_laws_szWishS : MSzWishS.ok Try.prog 38 := FM.f2_ok fun xs n h => f_szWishS xs n h.1 h.2

def H_laws_szWitness : Hint := { fs := [(38, MSzWishS)], kp := [(0, [0, 1]), (1, [1, 2]), (2, [1]), (3, []), (4, [1])], an := [] }
attribute [go_sem] H_laws_szWitness
theorem ok_H_laws_szWitness : H_laws_szWitness.ok Try.prog := AllOk.okR (.cons ok_laws_szWishS .nil) .nil mix
theorem f_szWitness (x : Witness) (n : Int) (h : x.2.length ≤ maxLen) (hn : n = 1048576) : VFun Try.prog 15 [(CE.st cWitness).enc x, (eInt .i64).enc n] [] ((eInt .i64).enc (if 1048576 < (x.2.length : Int) then -1 else 1048576 - (x.2.length : Int))) [] := by
  obtain ⟨d, xs⟩ := x
  dsimp only at h
  subst hn
  refine VFun_pure (n := 12) (rs := [.tmp 4]) Try.func15 rfl rfl rfl rfl H_laws_szWitness ok_H_laws_szWitness _ _ (Nat.le_of_ble_eq_true rfl) (by kernel_rfl) ?_
  simp only [go_sem, ↓reduceIte, reduceCtorEq, Nat.reduceAdd, Nat.reduceMul, Nat.reduceEqDiff, Nat.reduceSub, Nat.reduceLT, Nat.reduceLeDiff, Nat.reduceAnd, Nat.reduceShiftRight, Nat.reduceBEq, Nat.reduceBNe, Nat.reduceBneDiff, Nat.reduceBeqDiff, Int.reduceToNat, Int.reduceLE, Int.reduceLT, Int.reduceEq]
  refine ⟨h, ?_⟩
  by_cases h1 : 1048576 < (xs.length : Int)
  · simp [h1]
  · simp [h1]; omega
abbrev MSzWitness : FM := .f2 (CE.st cWitness) (eInt .i64) (eInt .i64).enc (fun x _ => if 1048576 < (x.2.length : Int) then -1 else 1048576 - (x.2.length : Int)) (fun x n => x.2.length ≤ maxLen ∧ n = 1048576)
attribute [go_sem] MSzWitness
theorem ok_laws_szWitness : MSzWitness.ok Try.prog 15 := FM.f2_ok fun xs n h => f_szWitness xs n h.1 h.2

/-- What a disk's witness holds. -/
def heldM (d : Disk) : Point := if (readM d).2 = 0 then (0, hashOf ⟨#[]⟩) else ((readM d).1.2.1, (readM d).1.2.2)
abbrev MHeldW : FM := .f1 (CE.st cDisk) (CE.st cPoint).enc heldM (fun _ => True)
attribute [go_sem] MHeldW

def H_spec_WitnessHeld : Hint := { fs := [(21, MRead), (50, MHashOf)], kp := [(0, [0]), (1, [1, 2]), (2, [2, 3, 4]), (3, [2]), (4, [2, 3])], an := [] }
attribute [go_sem] H_spec_WitnessHeld
theorem ok_H_spec_WitnessHeld : H_spec_WitnessHeld.ok Try.prog := AllOk.okR (.cons ok_spec_RecordRead (.cons ok_spec_HashOf .nil)) .nil mix
theorem f_spec_WitnessHeld (d : Disk) : VFun Try.prog 39 [(CE.st cDisk).enc d] [] ((CE.st cPoint).enc (heldM d)) [] := by
  have e : heldM d = heldM d := rfl
  conv at e => rhs; unfold heldM
  refine VFun_pure (n := 19) (rs := [.cell 2 78]) Try.func39 rfl rfl rfl rfl H_spec_WitnessHeld ok_H_spec_WitnessHeld _ _ (Nat.le_of_ble_eq_true rfl) (by kernel_rfl) ?_
  simp only [go_sem, ↓reduceIte, reduceCtorEq, Nat.reduceAdd, Nat.reduceMul, Nat.reduceEqDiff, Nat.reduceSub, Nat.reduceLT, Nat.reduceLeDiff, Nat.reduceAnd, Nat.reduceShiftRight, Nat.reduceBEq, Nat.reduceBNe, Nat.reduceBneDiff, Nat.reduceBeqDiff, Int.reduceToNat, Int.reduceLE, Int.reduceLT, Int.reduceEq]
  by_cases h : (readM d).2 = 0
  · rw [if_pos h] at e
    simp [h, e]
  · rw [if_neg h] at e
    simp [h, e]
theorem ok_spec_WitnessHeld : MHeldW.ok Try.prog 39 := FM.f1_ok fun d _ => f_spec_WitnessHeld d

def H_impl_WitnessHeld : Hint := { fs := [(22, MRead), (54, MHashOf)], kp := [(0, [0]), (1, [1, 2]), (2, [2, 3, 4]), (3, [2]), (4, [2, 3])], an := [] }
attribute [go_sem] H_impl_WitnessHeld
theorem ok_H_impl_WitnessHeld : H_impl_WitnessHeld.ok Try.prog := AllOk.okR (.cons ok_impl_RecordRead (.cons ok_impl_HashOf .nil)) .nil mix
theorem f_impl_WitnessHeld (d : Disk) : VFun Try.prog 41 [(CE.st cDisk).enc d] [] ((CE.st cPoint).enc (heldM d)) [] := by
  have e : heldM d = heldM d := rfl
  conv at e => rhs; unfold heldM
  refine VFun_pure (n := 19) (rs := [.cell 2 78]) Try.func41 rfl rfl rfl rfl H_impl_WitnessHeld ok_H_impl_WitnessHeld _ _ (Nat.le_of_ble_eq_true rfl) (by kernel_rfl) ?_
  simp only [go_sem, ↓reduceIte, reduceCtorEq, Nat.reduceAdd, Nat.reduceMul, Nat.reduceEqDiff, Nat.reduceSub, Nat.reduceLT, Nat.reduceLeDiff, Nat.reduceAnd, Nat.reduceShiftRight, Nat.reduceBEq, Nat.reduceBNe, Nat.reduceBneDiff, Nat.reduceBeqDiff, Int.reduceToNat, Int.reduceLE, Int.reduceLT, Int.reduceEq]
  by_cases h : (readM d).2 = 0
  · rw [if_pos h] at e
    simp [h, e]
  · rw [if_neg h] at e
    simp [h, e]
theorem ok_impl_WitnessHeld : MHeldW.ok Try.prog 41 := FM.f1_ok fun d _ => f_impl_WitnessHeld d

abbrev bxDisk1 (d : Disk) : List D := bxSlot d.1 ++ bxSlot d.2
abbrev bxPoint (x : Point) : List D := [.c (.v (.int .i64 x.1)), .c (.v (.int .u64 x.2.1.toNat)), .c (.v (.int .u64 x.2.2.1.toNat)), .c (.v (.int .u64 x.2.2.2.1.toNat)), .c (.v (.int .u64 x.2.2.2.2.toNat))]
attribute [go_sem] bxDisk1 bxPoint bxSlot

/-- What may stand in a witness's list. -/
def wishOk (h : Int) (x : Wish) : Bool := decide (1 ≤ x.1 ∧ x.1 ≤ 20) && decide (1 ≤ x.2.1 ∧ x.2.1 ≤ 1000000) && decide (h + 1 ≤ x.2.2.1 ∧ x.2.2.1 ≤ 256)
def goodB (h : Int) (ws : List Wish) (i : Nat) : Bool := match ws[i]? with
  | none => true
  | some x => wishOk h x && match i with
    | 0 => true
    | j + 1 => match ws[j]? with
      | none => true
      | some y => decide (y.1 < x.1)
def witM (w : Witness) : Bool := decide (w.2.length ≤ 8) && (List.range w.2.length).all (goodB (heldM w.1).1 w.2)
theorem witM_bad {d : Disk} {ws : List Wish} {i : Nat} (h : i < ws.length) (hb : goodB (heldM d).1 ws i = false) : witM (d, ws) = false := by
  unfold witM
  rw [Bool.and_eq_false_iff]
  exact .inr (List.all_eq_false.2 ⟨i, List.mem_range.2 h, by simp [hb]⟩)
theorem witM_good {d : Disk} {ws : List Wish} (h : ∀ i, i < ws.length → goodB (heldM d).1 ws i = true) : witM (d, ws) = decide (ws.length ≤ 8) := by
  unfold witM
  rw [List.all_eq_true.2 fun i hi => h i (List.mem_range.1 hi), Bool.and_true]
theorem goodB_0 {h : Int} {ws : List Wish} {x : Wish} (hx : ws[0]? = some x) : goodB h ws 0 = wishOk h x := by
  simp [goodB, hx]
theorem goodB_s {h : Int} {ws : List Wish} {i : Nat} {x y : Wish} (hx : ws[i + 1]? = some x) (hy : ws[i]? = some y) : goodB h ws (i + 1) = (wishOk h x && decide (y.1 < x.1)) := by
  simp [goodB, hx, hy]
theorem heldM_bd (d : Disk) : 0 ≤ (heldM d).1 ∧ (heldM d).1 ≤ 256 := by
  have := readM_bd d
  unfold heldM
  split
  · exact ⟨by decide, by decide⟩
  · exact ⟨this.2.2.1, this.2.2.2.1⟩

theorem wishOk_1 {h : Int} {x : Wish} (a : ¬ (1 ≤ x.1 ∧ x.1 ≤ 20)) : wishOk h x = false := by
  unfold wishOk; rw [decide_eq_false a]; rfl
theorem wishOk_2 {h : Int} {x : Wish} (a : ¬ (1 ≤ x.2.1 ∧ x.2.1 ≤ 1000000)) : wishOk h x = false := by
  unfold wishOk; rw [decide_eq_false a, Bool.and_false]; rfl
theorem wishOk_3 {h : Int} {x : Wish} (a : ¬ (h + 1 ≤ x.2.2.1 ∧ x.2.2.1 ≤ 256)) : wishOk h x = false := by
  unfold wishOk; rw [decide_eq_false a, Bool.and_false]
theorem wishOk_4 {h : Int} {x : Wish} (a : 1 ≤ x.1 ∧ x.1 ≤ 20) (b : 1 ≤ x.2.1 ∧ x.2.1 ≤ 1000000) (c : h + 1 ≤ x.2.2.1 ∧ x.2.2.1 ≤ 256) : wishOk h x = true := by
  unfold wishOk; rw [decide_eq_true a, decide_eq_true b, decide_eq_true c]; rfl
theorem all_next {p : Nat → Bool} {i : Nat} (h : ∀ j, j < i → p j = true) (hi : p i = true) : ∀ j, j < i + 1 → p j = true := fun j hj => by
  rcases Nat.lt_or_ge j i with h4 | h4
  · exact h j h4
  · rw [show j = i by omega]; exact hi

abbrev MWitOk : FM := .f1 (CE.st cWitness) eBool.enc witM (fun w => w.2.length ≤ 1048576)
attribute [go_sem] MWitOk

def H_spec_WitnessOk : Hint := { fs := [(30, M166), (39, MHeldW)], kp := [(0, [0]), (1, [1]), (2, []), (3, [1]), (4, [1, 3]), (5, [1, 3, 4]), (7, [1, 3, 4]), (8, [1, 3, 4, 5]), (9, []), (10, [1, 3, 4, 5]), (11, []), (6, [1, 3, 4]), (12, [])], an := [(10, [0, 1, 3, 7, 15, 7, 39, 127, 255, 511, 7, 1031, 4095, 8191])] }
attribute [go_sem] H_spec_WitnessOk
theorem ok_H_spec_WitnessOk : H_spec_WitnessOk.ok Try.prog := AllOk.okR (.cons m166 (.cons ok_spec_WitnessHeld .nil)) .nil mix
theorem f_spec_WitnessOk (w : Witness) (hl : w.2.length ≤ 1048576) : VFun Try.prog 16 [(CE.st cWitness).enc w] [] (eBool.enc (witM w)) [] := by
  obtain ⟨d, ws⟩ := w
  dsimp only at hl
  have hb := heldM_bd d
  have hbad := fun i => @witM_bad d ws i
  have hgood := @witM_good d ws
  have h0 := fun x => @goodB_0 (heldM d).1 ws x
  have hs := fun i x y => @goodB_s (heldM d).1 ws i x y
  refine VFun_pure (n := 59) (rs := [.tmp 2]) Try.func16 rfl rfl rfl rfl H_spec_WitnessOk ok_H_spec_WitnessOk _ _ (Nat.le_of_ble_eq_true rfl) (by kernel_rfl) ?_
  simp only [go_sem, ↓reduceIte, reduceCtorEq, Nat.reduceAdd, Nat.reduceMul, Nat.reduceEqDiff, Nat.reduceSub, Nat.reduceLT, Nat.reduceLeDiff, Nat.reduceAnd, Nat.reduceShiftRight, Nat.reduceBEq, Nat.reduceBNe, Nat.reduceBneDiff, Nat.reduceBeqDiff, Int.reduceToNat, Int.reduceLE, Int.reduceLT, Int.reduceEq]
  refine ite_intro (fun h1 => ?_) fun h1 => ?_
  · unfold witM; simp; omega
  refine LoopV.go (H := H_spec_WitnessOk) ok_H_spec_WitnessOk (by kernel_rfl) (fun i : Nat => ⟨[(1, .x (.o (.p (1, 100) 0 0 1))), (3, .x (.o (.p (1, 101) 0 0 1))), (4, sc (.int .i64 i))], [((1, 100), .bx [bxDisk1 d ++ [.c (.s (ws.map cWish.enc))]]), ((1, 101), .bx [bxPoint (heldM d)])], 2⟩) (fun i => ws.length - i) (fun i => i ≤ ws.length ∧ ∀ j, j < i → goodB (heldM d).1 ws j = true) ?_ 0 ⟨Nat.zero_le _, fun j h => by omega⟩
  intro i ⟨hi, hall⟩
  have w1 : IntKind.i64.wrap ((i : Int) + 1) = ((i + 1 : Nat) : Int) := by rw [wrap64] <;> omega
  have w2 : IntKind.i64.wrap ((heldM d).1 + 1) = (heldM d).1 + 1 := by rw [wrap64] <;> omega
  by_cases hlt : i < ws.length
  · have c1 : ((i : Int) < (ws.length : Int)) = True := eq_true (by omega)
    obtain ⟨x, hx⟩ : ∃ r, ws[i]? = some r := ⟨_, List.getElem?_eq_getElem hlt⟩
    have hb1 := hbad i hlt
    cases i with
    | zero =>
      have c3 : (0 < ((0 : Nat) : Int)) = False := eq_false (by omega)
      have e0 := h0 x hx
      rw [e0] at hb1
      simp only [go_sem, ↓reduceIte, reduceCtorEq, Nat.reduceAdd, Nat.reduceMul, Nat.reduceEqDiff, Nat.reduceSub, Nat.reduceLT, Nat.reduceLeDiff, Nat.reduceAnd, Nat.reduceShiftRight, Nat.reduceBEq, Nat.reduceBNe, Nat.reduceBneDiff, Nat.reduceBeqDiff, Int.reduceToNat, Int.reduceLE, Int.reduceLT, Int.reduceEq, c1, c3, w1, w2, hx]
      refine ite_intro (fun _ => ?_) fun hh => absurd (by omega) hh
      refine ite_intro (fun a1 => ite_intro (fun a2 => ite_intro (fun a3 => ?_) fun a3 => ?_) fun a2 => ?_) fun a1 => ?_
      · rw [hb1 (wishOk_3 a3)]
      · exact ⟨1, ⟨by omega, all_next hall (by rw [e0]; exact wishOk_4 a1 a2 (Decidable.not_not.1 a3))⟩, by omega, rfl⟩
      · rw [hb1 (wishOk_2 a2)]
      · rw [hb1 (wishOk_1 a1)]
    | succ j =>
      obtain ⟨y, hy⟩ : ∃ r, ws[j]? = some r := ⟨_, List.getElem?_eq_getElem (by omega)⟩
      have c3 : (0 < ((j + 1 : Nat) : Int)) = True := eq_true (by omega)
      have w3 : IntKind.i64.wrap (((j + 1 : Nat) : Int) - 1) = (j : Int) := by rw [wrap64] <;> omega
      have c4 : (j < ws.length) = True := eq_true (by omega)
      have e0 := hs j x y hx hy
      rw [e0] at hb1
      simp only [go_sem, ↓reduceIte, reduceCtorEq, Nat.reduceAdd, Nat.reduceMul, Nat.reduceEqDiff, Nat.reduceSub, Nat.reduceLT, Nat.reduceLeDiff, Nat.reduceAnd, Nat.reduceShiftRight, Nat.reduceBEq, Nat.reduceBNe, Nat.reduceBneDiff, Nat.reduceBeqDiff, Int.reduceToNat, Int.reduceLE, Int.reduceLT, Int.reduceEq, c1, c3, c4, w1, w2, w3, hx, hy]
      refine ite_intro (fun a1 => ite_intro (fun a2 => ite_intro (fun a3 => ?_) fun a3 => ite_intro (fun a4 => ?_) fun a4 => ?_) fun a2 => ?_) fun a1 => ?_
      · rw [hb1 (by rw [wishOk_3 a3]; rfl)]
      · rw [hb1 (by rw [decide_eq_false (by omega), Bool.and_false])]
      · exact ⟨j + 1 + 1, ⟨by omega, all_next hall (by rw [e0, wishOk_4 a1 a2 (Decidable.not_not.1 a3), decide_eq_true (by omega)]; rfl)⟩, by omega, rfl⟩
      · rw [hb1 (by rw [wishOk_2 a2]; rfl)]
      · rw [hb1 (by rw [wishOk_1 a1]; rfl)]
  · have c1 : ((i : Int) < (ws.length : Int)) = False := eq_false (by omega)
    simp only [go_sem, ↓reduceIte, reduceCtorEq, Nat.reduceAdd, Nat.reduceMul, Nat.reduceEqDiff, Nat.reduceSub, Nat.reduceLT, Nat.reduceLeDiff, Nat.reduceAnd, Nat.reduceShiftRight, Nat.reduceBEq, Nat.reduceBNe, Nat.reduceBneDiff, Nat.reduceBeqDiff, Int.reduceToNat, Int.reduceLE, Int.reduceLT, Int.reduceEq, c1]
    rw [hgood fun j hj => hall j (by omega)]
    simp; omega
theorem ok_spec_WitnessOk : MWitOk.ok Try.prog 16 := FM.f1_ok fun w h => f_spec_WitnessOk w h

def H_impl_WitnessOk : Hint := { fs := [(33, M166), (41, MHeldW)], kp := [(0, [0]), (1, [1]), (2, [1, 3]), (3, [1, 3, 10, 11, 12]), (4, [1, 3, 10, 11, 12]), (5, [1, 3, 4, 5, 10, 11, 12]), (6, []), (7, [1, 3, 10, 11, 12]), (8, [1])], an := [(5, [0, 1, 3, 7, 15, 31, 63, 127, 255, 511, 255, 1279, 4095, 8191, 16383, 255, 33023, 131071, 262143, 524287, 1048575, 2097151, 4194303, 8388607, 16777215, 33554431, 67108863, 134217727, 268435455, 536870911, 134217727, 1207959551, 3355443199, 8589934591, 17179869183, 34359738367])] }
attribute [go_sem] H_impl_WitnessOk
theorem ok_H_impl_WitnessOk : H_impl_WitnessOk.ok Try.prog := AllOk.okR (.cons m180 (.cons ok_impl_WitnessHeld .nil)) .nil mix
theorem f_impl_WitnessOk (w : Witness) (hl : w.2.length ≤ 1048576) : VFun Try.prog 18 [(CE.st cWitness).enc w] [] (eBool.enc (witM w)) [] := by
  obtain ⟨d, ws⟩ := w
  dsimp only at hl
  have hb := heldM_bd d
  have hbad := fun i => @witM_bad d ws i
  have hgood := @witM_good d ws
  have h0 := fun x => @goodB_0 (heldM d).1 ws x
  have hs := fun i x y => @goodB_s (heldM d).1 ws i x y
  refine VFun_pure (n := 58) (rs := [.tmp 2]) Try.func18 rfl rfl rfl rfl H_impl_WitnessOk ok_H_impl_WitnessOk _ _ (Nat.le_of_ble_eq_true rfl) (by kernel_rfl) ?_
  simp only [go_sem, ↓reduceIte, reduceCtorEq, Nat.reduceAdd, Nat.reduceMul, Nat.reduceEqDiff, Nat.reduceSub, Nat.reduceLT, Nat.reduceLeDiff, Nat.reduceAnd, Nat.reduceShiftRight, Nat.reduceBEq, Nat.reduceBNe, Nat.reduceBneDiff, Nat.reduceBeqDiff, Int.reduceToNat, Int.reduceLE, Int.reduceLT, Int.reduceEq]
  refine LoopV.go (H := H_impl_WitnessOk) ok_H_impl_WitnessOk (by kernel_rfl) (fun i : Nat => ⟨[(1, .x (.o (.p (1, 100) 0 0 1))), (3, .x (.o (.p (1, 101) 0 0 1))), (10, .x (.o (.c (.s (ws.map cWish.enc))))), (11, sc (.int .i64 ws.length)), (12, sc (.int .i64 i))], [((1, 100), .bx [bxDisk1 d ++ [.c (.s (ws.map cWish.enc))]]), ((1, 101), .bx [bxPoint (heldM d)])], 2⟩) (fun i => ws.length - i) (fun i => i ≤ ws.length ∧ ∀ j, j < i → goodB (heldM d).1 ws j = true) ?_ 0 ⟨Nat.zero_le _, fun j h => by omega⟩
  intro i ⟨hi, hall⟩
  have w1 : IntKind.i64.wrap ((i : Int) + 1) = ((i + 1 : Nat) : Int) := by rw [wrap64] <;> omega
  have w2 : IntKind.i64.wrap ((heldM d).1 + 1) = (heldM d).1 + 1 := by rw [wrap64] <;> omega
  by_cases hlt : i < ws.length
  · have c1 : ((i : Int) < (ws.length : Int)) = True := eq_true (by omega)
    obtain ⟨x, hx⟩ : ∃ r, ws[i]? = some r := ⟨_, List.getElem?_eq_getElem hlt⟩
    have hb1 := hbad i hlt
    cases i with
    | zero =>
      have c3 : (0 < ((0 : Nat) : Int)) = False := eq_false (by omega)
      have e0 := h0 x hx
      rw [e0] at hb1
      have hlt' : (0 < (ws.length : Int)) = True := eq_true (by omega)
      simp only [go_sem, ↓reduceIte, reduceCtorEq, Nat.reduceAdd, Nat.reduceMul, Nat.reduceEqDiff, Nat.reduceSub, Nat.reduceLT, Nat.reduceLeDiff, Nat.reduceAnd, Nat.reduceShiftRight, Nat.reduceBEq, Nat.reduceBNe, Nat.reduceBneDiff, Nat.reduceBeqDiff, Int.reduceToNat, Int.reduceLE, Int.reduceLT, Int.reduceEq, c1, c3, w1, w2, hx, hlt', eq_true hlt]
      refine ite_intro (fun a1 => ite_intro (fun a2 => ite_intro (fun a3 => ?_) fun a3 => ?_) fun a2 => ?_) fun a1 => ?_
      · rw [hb1 (wishOk_3 a3)]
      · exact ⟨1, ⟨by omega, all_next hall (by rw [e0]; exact wishOk_4 a1 a2 (Decidable.not_not.1 a3))⟩, by omega, rfl⟩
      · rw [hb1 (wishOk_2 a2)]
      · rw [hb1 (wishOk_1 a1)]
    | succ j =>
      obtain ⟨y, hy⟩ : ∃ r, ws[j]? = some r := ⟨_, List.getElem?_eq_getElem (by omega)⟩
      have c3 : (0 < ((j + 1 : Nat) : Int)) = True := eq_true (by omega)
      have w3 : IntKind.i64.wrap (((j + 1 : Nat) : Int) - 1) = (j : Int) := by rw [wrap64] <;> omega
      have c4 : (j < ws.length) = True := eq_true (by omega)
      have e0 := hs j x y hx hy
      rw [e0] at hb1
      simp only [go_sem, ↓reduceIte, reduceCtorEq, Nat.reduceAdd, Nat.reduceMul, Nat.reduceEqDiff, Nat.reduceSub, Nat.reduceLT, Nat.reduceLeDiff, Nat.reduceAnd, Nat.reduceShiftRight, Nat.reduceBEq, Nat.reduceBNe, Nat.reduceBneDiff, Nat.reduceBeqDiff, Int.reduceToNat, Int.reduceLE, Int.reduceLT, Int.reduceEq, c1, c3, c4, w1, w2, w3, hx, hy, eq_true hlt]
      refine ite_intro (fun a1 => ite_intro (fun a4 => ite_intro (fun a2 => ite_intro (fun a3 => ?_) fun a3 => ?_) fun a2 => ?_) fun a4 => ?_) fun a1 => ?_
      · rw [hb1 (by rw [wishOk_3 a3]; rfl)]
      · exact ⟨j + 1 + 1, ⟨by omega, all_next hall (by rw [e0, wishOk_4 a1 a2 (Decidable.not_not.1 a3), decide_eq_true (by omega)]; rfl)⟩, by omega, rfl⟩
      · rw [hb1 (by rw [wishOk_2 a2]; rfl)]
      · rw [hb1 (by rw [decide_eq_false (by omega), Bool.and_false])]
      · rw [hb1 (by rw [wishOk_1 a1]; rfl)]
  · have c1 : ((i : Int) < (ws.length : Int)) = False := eq_false (by omega)
    simp only [go_sem, ↓reduceIte, reduceCtorEq, Nat.reduceAdd, Nat.reduceMul, Nat.reduceEqDiff, Nat.reduceSub, Nat.reduceLT, Nat.reduceLeDiff, Nat.reduceAnd, Nat.reduceShiftRight, Nat.reduceBEq, Nat.reduceBNe, Nat.reduceBneDiff, Nat.reduceBeqDiff, Int.reduceToNat, Int.reduceLE, Int.reduceLT, Int.reduceEq, c1]
    rw [hgood fun j hj => hall j (by omega)]
    simp; omega
theorem ok_impl_WitnessOk : MWitOk.ok Try.prog 18 := FM.f1_ok fun w h => f_impl_WitnessOk w h

end Go.Proofs.YtgdbammhnjkbbaaW.V

