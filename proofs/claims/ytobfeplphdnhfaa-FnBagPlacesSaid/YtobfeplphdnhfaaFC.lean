/- Functions: bags. No condition but each theorem's own. -/
import Derived.Test.YtobfeplphdnhfaaFB
namespace Go.Proofs.YtobfeplphdnhfaaW.V
open Go Go.Proofs
set_option linter.unusedSimpArgs false
set_option linter.unusedVariables false
set_option maxRecDepth 8000
set_option maxHeartbeats 4000000


def H160 : Hint := { fs := [], kp := [(0, [0]), (1, [0]), (2, []), (3, [0]), (4, [0, 3]), (5, [3])], an := [] }
attribute [go_sem] H160
theorem f160 (xs : List Int) (h : xs.length ≤ 1000000) : VFun Try.prog 34 [(eList (cInt .i64)).enc xs] [] ((eList (cInt .i64)).enc xs) [] := by
  refine VFun_pure (n := 14) (rs := [.tmp 2]) Try.func34 rfl rfl rfl rfl H160 (okN rfl mix) _ _ (Nat.le_of_ble_eq_true rfl) (by kernel_rfl) ?_
  simp only [go_sem, ↓reduceIte, reduceCtorEq, Nat.reduceAdd, Nat.reduceMul, Nat.reduceEqDiff, Nat.reduceSub, Nat.reduceLT, Nat.reduceLeDiff, Nat.reduceAnd, Nat.reduceShiftRight, Nat.reduceBEq, Nat.reduceBNe, Nat.reduceBneDiff, Nat.reduceBeqDiff, Int.reduceToNat, Int.reduceLE, Int.reduceLT, Int.reduceEq]
  refine ite_intro (fun h1 => ?_) fun h1 => ⟨by omega, by simp⟩
  have : xs = [] := by simpa using h1
  rw [this]
abbrev M160 : FM := .f1 (eList (cInt .i64)) (eList (cInt .i64)).enc (fun x => x) (fun x => x.length ≤ 1000000)
attribute [go_sem] M160
theorem m160 : M160.ok Try.prog 34 := FM.f1_ok fun x h => f160 x h

def H170 : Hint := { fs := [], kp := [(0, [0]), (1, [0]), (2, []), (3, [0]), (4, [0, 3]), (5, [3])], an := [] }
attribute [go_sem] H170
theorem f170 (xs : List Letter) (h : xs.length ≤ 1000000) : VFun Try.prog 37 [(eList cLetter).enc xs] [] ((eList cLetter).enc xs) [] := by
  refine VFun_pure (n := 14) (rs := [.tmp 2]) Try.func37 rfl rfl rfl rfl H170 (okN rfl mix) _ _ (Nat.le_of_ble_eq_true rfl) (by kernel_rfl) ?_
  simp only [go_sem, ↓reduceIte, reduceCtorEq, Nat.reduceAdd, Nat.reduceMul, Nat.reduceEqDiff, Nat.reduceSub, Nat.reduceLT, Nat.reduceLeDiff, Nat.reduceAnd, Nat.reduceShiftRight, Nat.reduceBEq, Nat.reduceBNe, Nat.reduceBneDiff, Nat.reduceBeqDiff, Int.reduceToNat, Int.reduceLE, Int.reduceLT, Int.reduceEq]
  refine ite_intro (fun h1 => ?_) fun h1 => ⟨by omega, by simp⟩
  have : xs = [] := by simpa using h1
  rw [this]
abbrev M170 : FM := .f1 (eList cLetter) (eList cLetter).enc (fun x => x) (fun x => x.length ≤ 1000000)
attribute [go_sem] M170
theorem m170 : M170.ok Try.prog 37 := FM.f1_ok fun x h => f170 x h

def H168 : Hint := { fs := [(37, M170)], kp := [(0, [0]), (1, [1, 2])], an := [(1, [0, 1, 0, 4, 12, 31, 63])] }
attribute [go_sem] H168
theorem f168 (x : Bag) (h : x.2.length ≤ 1000000) : VFun Try.prog 35 [(CE.st cBag).enc x] [] ((CE.st cBag).enc x) [] := by
  obtain ⟨r, ls⟩ := x
  refine VFun_pure (n := 9) (rs := [.cell 2 25]) Try.func35 rfl rfl rfl rfl H168 (AllOk.ok (.cons m170 .nil) mix) _ _ (Nat.le_of_ble_eq_true rfl) (by kernel_rfl) ?_
  simp only [go_sem, ↓reduceIte, reduceCtorEq, Nat.reduceAdd, Nat.reduceMul, Nat.reduceEqDiff, Nat.reduceSub, Nat.reduceLT, Nat.reduceLeDiff, Nat.reduceAnd, Nat.reduceShiftRight, Nat.reduceBEq, Nat.reduceBNe, Nat.reduceBneDiff, Nat.reduceBeqDiff, Int.reduceToNat, Int.reduceLE, Int.reduceLT, Int.reduceEq]
  exact h
abbrev M168 : FM := .f1 (CE.st cBag) (CE.st cBag).enc (fun x => x) (fun x => x.2.length ≤ 1000000)
attribute [go_sem] M168
theorem m168 : M168.ok Try.prog 35 := FM.f1_ok fun x h => f168 x h

def H172 : Hint := { fs := [(47, M166)], kp := [(0, [0]), (1, [1])], an := [] }
attribute [go_sem] H172
theorem f172 (x : Letter) : VFun Try.prog 39 [(CE.st cLetter).enc x] [] (eBool.enc (letterOk x)) [] := by
  obtain ⟨a, b, c⟩ := x
  refine VFun_pure (n := 17) (rs := [.tmp 2]) Try.func39 rfl rfl rfl rfl H172 (AllOk.ok (.cons m180 .nil) mix) _ _ (Nat.le_of_ble_eq_true rfl) (by kernel_rfl) ?_
  simp only [go_sem, ↓reduceIte, reduceCtorEq, Nat.reduceAdd, Nat.reduceMul, Nat.reduceEqDiff, Nat.reduceSub, Nat.reduceLT, Nat.reduceLeDiff, Nat.reduceAnd, Nat.reduceShiftRight, Nat.reduceBEq, Nat.reduceBNe, Nat.reduceBneDiff, Nat.reduceBeqDiff, Int.reduceToNat, Int.reduceLE, Int.reduceLT, Int.reduceEq]
  by_cases h1 : 0 ≤ a ∧ a ≤ 20 <;> by_cases h2 : 0 ≤ b ∧ b ≤ 20 <;> simp [h1, h2, letterOk]
theorem m172 : M51.ok Try.prog 39 := FM.f1_ok fun x _ => f172 x

def H167 : Hint := { fs := [(39, M51), (47, M166)], kp := [(0, [0]), (1, [1]), (2, [1, 6, 7, 8]), (3, [1, 6, 7, 8]), (4, [1, 4, 6, 7, 8]), (5, []), (6, [1, 6, 7, 8]), (7, [1])], an := [] }
attribute [go_sem] H167
theorem f167 (x : Bag) (hl : x.2.length ≤ maxLen) : VFun Try.prog 33 [(CE.st cBag).enc x] [] (eBool.enc (bagOk x)) [] := by
  obtain ⟨r, ls⟩ := x
  unfold maxLen at hl
  simp only at hl
  refine VFun_pure (n := 27) (rs := [.tmp 2]) Try.func33 rfl rfl rfl rfl H167 (AllOk.ok (.cons m172 (.cons m180 .nil)) mix) _ _ (Nat.le_of_ble_eq_true rfl) (by kernel_rfl) ?_
  simp only [go_sem, ↓reduceIte, reduceCtorEq, Nat.reduceAdd, Nat.reduceMul, Nat.reduceEqDiff, Nat.reduceSub, Nat.reduceLT, Nat.reduceLeDiff, Nat.reduceAnd, Nat.reduceShiftRight, Nat.reduceBEq, Nat.reduceBNe, Nat.reduceBneDiff, Nat.reduceBeqDiff, Int.reduceToNat, Int.reduceLE, Int.reduceLT, Int.reduceEq]
  refine LoopV.meas (H := H167) (AllOk.ok (.cons m172 (.cons m180 .nil)) mix) (by kernel_rfl) (fun i : Nat => ⟨[(1, .x (.o (.p (1, 100) 0 0 1))), (6, .x (.o (.c (.s (ls.map cLetter.enc))))), (7, sc (.int .i64 ls.length)), (8, sc (.int .i64 i))],
    [((1, 100), .bx [[.c (.v (.int .i64 r)), .c (.s (ls.map cLetter.enc))]])], 2⟩) (fun i => ls.length - i) (fun i => i ≤ ls.length ∧ ∀ j x, j < i → ls[j]? = some x → letterOk x = true) ?_ 0 ⟨Nat.zero_le _, fun j x h => by omega⟩
  intro i ⟨hi, hall⟩
  rcases Nat.lt_or_ge i ls.length with hlt | hge
  · have hx : ls[i]? = some ls[i] := List.getElem?_eq_getElem hlt
    generalize ls[i] = x at hx
    have hw : IntKind.i64.wrap ((i : Int) + 1) = ((i + 1 : Nat) : Int) := by rw [wrap64] <;> omega
    have hlt' : ((i : Int) < (ls.length : Int)) = True := by simp; omega
    simp only [go_sem, ↓reduceIte, reduceCtorEq, Nat.reduceAdd, Nat.reduceMul, Nat.reduceEqDiff, Nat.reduceSub, Nat.reduceLT, Nat.reduceLeDiff, Nat.reduceAnd, Nat.reduceShiftRight, Nat.reduceBEq, Nat.reduceBNe, Nat.reduceBneDiff, Nat.reduceBeqDiff, Int.reduceToNat, Int.reduceLE, Int.reduceLT, Int.reduceEq, hx, hw, hlt']
    refine ite_intro (fun h3 => ?_) fun h3 => ⟨i + 1, ⟨hlt, fun j y hj hy => ?_⟩, by omega, rfl⟩
    · have : letterOk x = false := by simpa using h3
      simp [bagOk, List.all_eq_false.2 ⟨x, List.mem_of_getElem? hx, by simpa using this⟩]
    · rcases Nat.lt_or_ge j i with h4 | h4
      · exact hall j y h4 hy
      · rw [show j = i by omega, hx] at hy
        cases hy
        simpa using h3
  · have hlt' : ((i : Int) < (ls.length : Int)) = False := by simp; omega
    simp only [go_sem, ↓reduceIte, reduceCtorEq, Nat.reduceAdd, Nat.reduceMul, Nat.reduceEqDiff, Nat.reduceSub, Nat.reduceLT, Nat.reduceLeDiff, Nat.reduceAnd, Nat.reduceShiftRight, Nat.reduceBEq, Nat.reduceBNe, Nat.reduceBneDiff, Nat.reduceBeqDiff, Int.reduceToNat, Int.reduceLE, Int.reduceLT, Int.reduceEq, hlt']
    have : ls.all letterOk = true := List.all_eq_true.2 fun x hx => by
      obtain ⟨j, hj⟩ := List.getElem?_of_mem hx
      exact hall j x (Nat.lt_of_lt_of_le (List.getElem?_eq_some_iff.1 hj).1 hge) hj
    by_cases h1 : 1 ≤ r ∧ r ≤ 64 <;> by_cases h2 : (ls.length : Int) ≤ r <;> simp [bagOk, this, h1, h2]
abbrev M167 : FM := .f1 (CE.st cBag) eBool.enc bagOk (fun x => x.2.length ≤ maxLen)
attribute [go_sem] M167
theorem m167 : M167.ok Try.prog 33 := FM.f1_ok fun x h => f167 x h

/-- The places of a bag at which letters for a node lie. -/
def placesOf (k : Int) : List Letter → Nat → List Int
  | [], _ => []
  | x :: ls, i => if x.2.1 = k then (i : Int) :: placesOf k ls (i + 1) else placesOf k ls (i + 1)
def H43 : Hint := { fs := [(33, M167), (34, M160)], kp := [(0, [0, 1]), (1, [1, 2]), (2, []), (3, [1, 2]), (4, [1, 2, 5]), (5, [1, 5, 12, 13, 14]), (6, [1, 5, 12, 13, 14]), (7, [1, 5, 6, 7, 12, 13, 14]), (8, [1, 5, 6, 12, 13, 14]), (9, [1, 5, 12, 13, 14]), (10, [5])], an := [], fz := [(10, [5])], nl := [(4, [(5, 1)])] }
attribute [go_sem] H43
theorem f43 (x : Bag) (k : Int) (hl : x.2.length ≤ 1000000) : VFun Try.prog 9 [(CE.st cBag).enc x, (eInt .i64).enc k] [] ((eList (cInt .i64)).enc (if bagOk x then placesOf k x.2 0 else [])) [] := by
  obtain ⟨r, ls⟩ := x
  refine VFun_pure (n := 30) (rs := [.tmp 4]) Try.func9 rfl rfl rfl rfl H43 (AllOk.ok (.cons m167 (.cons m160 .nil)) mix) _ _ (Nat.le_of_ble_eq_true rfl) (by kernel_rfl) ?_
  simp only [go_sem, ↓reduceIte, reduceCtorEq, Nat.reduceAdd, Nat.reduceMul, Nat.reduceEqDiff, Nat.reduceSub, Nat.reduceLT, Nat.reduceLeDiff, Nat.reduceAnd, Nat.reduceShiftRight, Nat.reduceBEq, Nat.reduceBNe, Nat.reduceBneDiff, Nat.reduceBeqDiff, Int.reduceToNat, Int.reduceLE, Int.reduceLT, Int.reduceEq]
  simp only at hl
  refine ⟨by unfold maxLen; omega, ite_intro (fun h1 => ?_) fun h1 => ?_⟩
  · have : bagOk (r, ls) = false := by simpa using h1
    simp [this]
  have hb : bagOk (r, ls) = true := by simpa using h1
  refine LoopV.meas (H := H43) (AllOk.ok (.cons m167 (.cons m160 .nil)) mix) (by kernel_rfl) (fun y : Nat × List Int => ⟨[(1, sc (.int .i64 k)), (5, .x (.o (.h (1, 100) 0 y.2.length y.2.length))), (12, .x (.o (.c (.s (ls.map cLetter.enc))))), (13, sc (.int .i64 ls.length)), (14, sc (.int .i64 y.1))],
    [((1, 100), .row 1 (y.2.map (cInt .i64).enc))], 2⟩) (fun y => ls.length - y.1) (fun y => y.1 ≤ ls.length ∧ y.2.length ≤ y.1 ∧ y.2 ++ placesOf k (ls.drop y.1) y.1 = placesOf k ls 0) ?_ (0, []) ⟨Nat.zero_le _, Nat.le_refl _, rfl⟩
  intro ⟨i, out⟩ ⟨hi, ho, hp⟩
  simp only at hi ho hp
  rcases Nat.lt_or_ge i ls.length with hlt | hge
  · have hx : ls[i]? = some ls[i] := List.getElem?_eq_getElem hlt
    have hd : ls.drop i = ls[i] :: ls.drop (i + 1) := List.drop_eq_getElem_cons hlt
    generalize ls[i] = x at hx hd
    have hw : IntKind.i64.wrap ((i : Int) + 1) = ((i + 1 : Nat) : Int) := by rw [wrap64] <;> omega
    have hlt' : ((i : Int) < (ls.length : Int)) = True := by simp; omega
    simp only [go_sem, ↓reduceIte, reduceCtorEq, Nat.reduceAdd, Nat.reduceMul, Nat.reduceEqDiff, Nat.reduceSub, Nat.reduceLT, Nat.reduceLeDiff, Nat.reduceAnd, Nat.reduceShiftRight, Nat.reduceBEq, Nat.reduceBNe, Nat.reduceBneDiff, Nat.reduceBeqDiff, Int.reduceToNat, Int.reduceLE, Int.reduceLT, Int.reduceEq, hx, hw, hlt']
    rw [hd] at hp
    refine ite_intro (fun h2 => ⟨⟨by omega, by omega⟩, (i + 1, out ++ [(i : Int)]), ⟨hlt, by simp; omega, ?_⟩, by simp only; omega, by simp [cInt_enc]⟩) fun h2 => ⟨(i + 1, out), ⟨hlt, by simp only; omega, ?_⟩, by simp only; omega, rfl⟩
    · have h3 : x.2.1 = k := by simpa using h2
      rw [← hp]
      simp [placesOf, h3]
    · have h3 : ¬ x.2.1 = k := by simpa using h2
      rw [← hp]
      simp [placesOf, h3]
  · have hlt' : ((i : Int) < (ls.length : Int)) = False := by simp; omega
    simp only [go_sem, ↓reduceIte, reduceCtorEq, Nat.reduceAdd, Nat.reduceMul, Nat.reduceEqDiff, Nat.reduceSub, Nat.reduceLT, Nat.reduceLeDiff, Nat.reduceAnd, Nat.reduceShiftRight, Nat.reduceBEq, Nat.reduceBNe, Nat.reduceBneDiff, Nat.reduceBeqDiff, Int.reduceToNat, Int.reduceLE, Int.reduceLT, Int.reduceEq, hlt']
    have h2 : out = placesOf k ls 0 := by
      rw [← hp, List.drop_eq_nil_of_le hge]
      simp [placesOf]
    refine ⟨by omega, ?_⟩
    rw [hb, ← h2]
    rfl
abbrev M43 : FM := .f2 (CE.st cBag) (eInt .i64) (eList (cInt .i64)).enc (fun x k => if bagOk x then placesOf k x.2 0 else []) (fun x _ => x.2.length ≤ 1000000)
attribute [go_sem] M43
theorem m43 : M43.ok Try.prog 9 := FM.f2_ok fun x k h => f43 x k h

def modulo (a n : Int) : Int := (a.tmod n + n).tmod n
def H169 : Hint := { fs := [], kp := [(0, [0, 1]), (1, [0, 1])], an := [] }
attribute [go_sem] H169
theorem f169 (a n : Int) (h0 : 0 < n) (h1 : n ≤ 1000000) : VFun Try.prog 36 [(eInt .i64).enc a, (eInt .i64).enc n] [] ((eInt .i64).enc (modulo a n)) [] := by
  refine VFun_pure (n := 12) (rs := [.tmp 4]) Try.func36 rfl rfl rfl rfl H169 (okN rfl mix) _ _ (Nat.le_of_ble_eq_true rfl) (by kernel_rfl) ?_
  have b1 : a.tmod n < n := Int.tmod_lt_of_pos a h0
  have b2 : -n < a.tmod n := Int.lt_tmod_of_pos a h0
  have hw : IntKind.i64.wrap (a.tmod n + n) = a.tmod n + n := wrap64 (by omega) (by omega)
  simp only [go_sem, ↓reduceIte, reduceCtorEq, Nat.reduceAdd, Nat.reduceMul, Nat.reduceEqDiff, Nat.reduceSub, Nat.reduceLT, Nat.reduceLeDiff, Nat.reduceAnd, Nat.reduceShiftRight, Nat.reduceBEq, Nat.reduceBNe, Nat.reduceBneDiff, Nat.reduceBeqDiff, Int.reduceToNat, Int.reduceLE, Int.reduceLT, Int.reduceEq, hw]
  exact ⟨by omega, by omega, rfl⟩
abbrev M169 : FM := .f2 (eInt .i64) (eInt .i64) (eInt .i64).enc modulo (fun _ n => 0 < n ∧ n ≤ 1000000)
attribute [go_sem] M169
theorem m169 : M169.ok Try.prog 36 := FM.f2_ok fun a n h => f169 a n h.1 h.2

end Go.Proofs.YtobfeplphdnhfaaW.V

