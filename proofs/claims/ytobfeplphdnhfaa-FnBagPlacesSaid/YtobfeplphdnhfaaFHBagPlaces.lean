/- The law of bags: every letter is on its way to just one node. No condition but each theorem's own. -/
import Derived.Test.YtobfeplphdnhfaaFGL
namespace Go.Proofs.YtobfeplphdnhfaaW.V
open Go Go.Proofs
set_option linter.unusedSimpArgs false
set_option linter.unusedVariables false
set_option maxRecDepth 8000
set_option maxHeartbeats 4000000


/-- What the places of a node are. -/
theorem placesOf_spec {k : Int} : ∀ {ls : List Letter} {i n : Nat} {v : Int}, (placesOf k ls i)[n]? = some v → ∃ p : Nat, v = ((i + p : Nat) : Int) ∧ ∃ x, ls[p]? = some x ∧ x.2.1 = k
  | [], i, n, v, h => by simp [placesOf] at h
  | x :: ls, i, n, v, h => by
    simp only [placesOf] at h
    split at h
    · rename_i e
      cases n with
      | zero => simp at h; exact ⟨0, by simp [h], x, rfl, e⟩
      | succ n =>
        obtain ⟨p, h1, y, h2, h3⟩ := placesOf_spec (by simpa using h)
        exact ⟨p + 1, by rw [h1]; congr 1; omega, y, by simpa using h2, h3⟩
    · obtain ⟨p, h1, y, h2, h3⟩ := placesOf_spec h
      exact ⟨p + 1, by rw [h1]; congr 1; omega, y, by simpa using h2, h3⟩
theorem placesOf_up {k : Int} : ∀ {ls : List Letter} {i n : Nat} {u v : Int}, (placesOf k ls i)[n]? = some u → (placesOf k ls i)[n + 1]? = some v → u < v
  | [], i, n, u, v, h, _ => by simp [placesOf] at h
  | x :: ls, i, n, u, v, h, h' => by
    simp only [placesOf] at h h'
    split at h
    · rename_i e
      rw [if_pos e] at h'
      cases n with
      | zero =>
        simp at h h'
        obtain ⟨p, h1, _⟩ := placesOf_spec (n := 0) h'
        omega
      | succ n => exact placesOf_up (n := n) (by simpa using h) (by simpa using h')
    · rename_i e
      rw [if_neg e] at h'
      exact placesOf_up h h'
theorem placesOf_len {k : Int} : ∀ {ls : List Letter} {i : Nat}, (placesOf k ls i).length = ls.countP fun x => decide (x.2.1 = k)
  | [], _ => rfl
  | x :: ls, i => by
    simp only [placesOf, List.countP_cons]
    split
    · rename_i e; simp [placesOf_len (ls := ls), e]
    · rename_i e; simp [placesOf_len (ls := ls), e]
def below (n : Int) (ls : List Letter) : Nat := ls.countP fun x => decide (x.2.1 < n)
theorem below_up (n : Int) : ∀ ls : List Letter, below (n + 1) ls = below n ls + ls.countP fun x => decide (x.2.1 = n)
  | [] => rfl
  | x :: ls => by
    have := below_up n ls
    unfold below at this ⊢
    simp only [List.countP_cons, this]
    simp only [decide_eq_true_eq]
    split <;> split <;> split <;> omega
theorem below_zero {ls : List Letter} (h : ∀ x ∈ ls, letterOk x = true) : below 0 ls = 0 := by
  unfold below
  rw [List.countP_eq_zero]
  intro x hx
  have := h x hx
  simp [letterOk] at this
  simp; omega
theorem below_all {ls : List Letter} (h : ∀ x ∈ ls, letterOk x = true) : below 21 ls = ls.length := by
  unfold below
  rw [List.countP_eq_length]
  intro x hx
  have := h x hx
  simp [letterOk] at this
  simp; omega

theorem sub_ne {α : Type} {x y : α} {l l' : List α} (h : (y :: l).Sublist (x :: l')) (hne : x ≠ y) : (y :: l).Sublist l' := by
  cases h with
  | cons _ h => exact h
  | cons_cons _ h => exact absurd rfl hne

def H_laws_FnBagPlaces : Hint := { fs := [(8, M42), (9, M43), (10, MTake), (11, MIf)], kp := [(0, [0]), (1, [0]), (2, []), (3, [0]), (4, [3, 4]), (5, [3]), (6, [3, 4]), (7, [3, 4, 5]), (8, [3, 4, 5, 6]), (10, [3, 4, 5, 6]), (11, [3, 4, 5, 6, 7]), (12, [3, 4, 5, 6, 7, 8]), (14, [3, 4, 5, 6, 7, 8]), (15, []), (13, [3, 4, 5, 6, 7, 8]), (16, [3, 4, 5, 6, 7]), (9, [3, 4, 5, 6]), (17, [3, 4, 5]), (18, [3, 5, 9, 11]), (19, []), (20, [3, 5, 9, 11]), (21, [3, 5, 9, 11, 12]), (22, [3, 5, 9, 11, 12, 13]), (24, [3, 5, 9, 11, 12, 13]), (25, [3, 5, 9, 11, 12, 13]), (23, [3, 5, 9, 11, 12, 13]), (26, [5, 9, 11, 12])], an := [(14, [0, 0, 3, 7, 15, 31, 63, 63, 255, 511, 63, 1087, 3135, 8191, 16383, 32767, 65535, 131071, 262143, 524287, 524287, 2097151, 4194303, 524287, 524287, 17301503, 59244543, 126353407, 268435455, 536870911, 1073741823, 2147483647, 4294967295, 8589934591, 4294967295, 4294967295, 55834574847, 124554051583, 274877906943, 549755813887, 1099511627775, 4294967295, 4398046511103, 8796093022207]), (24, [0, 1, 0, 7, 15, 0, 32, 0, 224, 480, 1023]), (26, [0, 0, 2, 6, 15, 31, 63, 127, 255, 63, 63, 1087, 3647, 8191, 16383, 32767])], rs := [(7, RDrawBagTake)] }
attribute [go_sem] H_laws_FnBagPlaces
theorem ok_H_laws_FnBagPlaces : H_laws_FnBagPlaces.ok Try.prog := AllOk.okR (.cons m42 (.cons m43 (.cons ok_impl_BagTake (.cons ok_laws_ifInt .nil)))) (.cons ok_spec_DrawBagTake .nil) mix
theorem f_FnBagPlaces (b : List UInt8) (_ : b.length ≤ maxLen ∧ ∀ x ∈ b, True) : VFun Try.prog 3 [(eList cU8).enc b] [] (eBool.enc true) [] := by
  refine VFun_pure (n := 150) (rs := [.tmp 2]) Try.func3 rfl rfl rfl rfl H_laws_FnBagPlaces ok_H_laws_FnBagPlaces _ _ (Nat.le_of_ble_eq_true rfl) (by kernel_rfl) ?_
  simp only [go_sem, ↓reduceIte, reduceCtorEq, Nat.reduceAdd, Nat.reduceMul, Nat.reduceEqDiff, Nat.reduceSub, Nat.reduceLT, Nat.reduceLeDiff, Nat.reduceAnd, Nat.reduceShiftRight, Nat.reduceBEq, Nat.reduceBNe, Nat.reduceBneDiff, Nat.reduceBeqDiff, Int.reduceToNat, Int.reduceLE, Int.reduceLT, Int.reduceEq]
  refine ite_intro (fun _ => trivial) fun h => ⟨by omega, ?_⟩
  rintro ⟨⟨r, ls⟩, k⟩ ⟨g1, -⟩
  dsimp only at g1 ⊢
  cases hb : bagOk (r, ls) with
  | false =>
    simp only [if_true]
    exact ⟨by omega, rfl⟩
  | true =>
  have hall : ∀ x ∈ ls, letterOk x = true := fun x hx => by
    simp only [bagOk, Bool.and_eq_true] at hb
    exact List.all_eq_true.1 hb.2 x hx
  simp only [Bool.true_eq_false, if_false]
  have hl : (ls.length : Int) ≤ 66 := by omega
  refine LoopV.go (H := H_laws_FnBagPlaces) ok_H_laws_FnBagPlaces (by kernel_rfl) (fun y : Nat × Int => ⟨[(3, .x (.o (.p (1, 100) 0 0 1))), (4, sc (.int .i64 k)), (5, sc (.int .i64 y.2)), (6, sc (.int .i64 y.1))],
    [((1, 100), .bx [[.c (.v (.int .i64 r)), .c (.s (ls.map cLetter.enc))]])], 2⟩) (fun y => 21 - y.1) (fun y => y.1 ≤ 21 ∧ y.2 = (below y.1 ls : Nat)) ?_ (0, 0) ⟨by omega, by simp [below_zero hall]⟩
  rintro ⟨n, s⟩ ⟨hn, hs⟩
  dsimp only at hn hs
  by_cases hn2 : (n : Int) ≤ 20
  · simp only [go_sem, ↓reduceIte, reduceCtorEq, Nat.reduceAdd, Nat.reduceMul, Nat.reduceEqDiff, Nat.reduceSub, Nat.reduceLT, Nat.reduceLeDiff, Nat.reduceAnd, Nat.reduceShiftRight, Nat.reduceBEq, Nat.reduceBNe, Nat.reduceBneDiff, Nat.reduceBeqDiff, Int.reduceToNat, Int.reduceLE, Int.reduceLT, Int.reduceEq, hn2, hb]
    refine ⟨by omega, ?_⟩
    have hsum : (below ((n : Int) + 1) ls : Nat) = below n ls + (placesOf (n : Int) ls 0).length := by rw [placesOf_len]; exact below_up _ _
    have hlen : (placesOf (n : Int) ls 0).length ≤ ls.length := by rw [placesOf_len]; exact List.countP_le_length
    have hsp : ∀ (i : Nat) v, (placesOf (n : Int) ls 0)[i]? = some v → ∃ p : Nat, v = (p : Int) ∧ ∃ x, ls[p]? = some x ∧ x.2.1 = n := fun i v hv => by
      obtain ⟨p, h1, h2⟩ := placesOf_spec hv
      exact ⟨p, by rw [h1, Nat.zero_add], h2⟩
    have hup : ∀ (i : Nat) u v, (placesOf (n : Int) ls 0)[i]? = some u → (placesOf (n : Int) ls 0)[i + 1]? = some v → u < v := fun i u v => placesOf_up
    refine LoopV.go (H := H_laws_FnBagPlaces) ok_H_laws_FnBagPlaces (by kernel_rfl) (fun i : Nat => ⟨[(3, .x (.o (.p (1, 100) 0 0 1))), (4, sc (.int .i64 k)), (5, sc (.int .i64 s)), (6, sc (.int .i64 n)), (7, .x (.o (.c (.s ((placesOf (n : Int) ls 0).map (cInt .i64).enc))))), (8, sc (.int .i64 i))],
      [((1, 100), .bx [[.c (.v (.int .i64 r)), .c (.s (ls.map cLetter.enc))]])], 2⟩) (fun i => (placesOf (n : Int) ls 0).length - i) (fun i => i ≤ (placesOf (n : Int) ls 0).length) ?_ 0 (Nat.zero_le _)
    intro i hi
    by_cases hlt : i < (placesOf (n : Int) ls 0).length
    · have hv : (placesOf (n : Int) ls 0)[i]? = some (placesOf (n : Int) ls 0)[i] := List.getElem?_eq_getElem hlt
      have hsp1 := hsp i _ hv
      obtain ⟨p, hp, x, hx, hxk⟩ := hsp1
      rw [hp] at hv
      have hpl : p < ls.length := (List.getElem?_eq_some_iff.1 hx).1
      have c1 : ((i : Int) < ((placesOf (n : Int) ls 0).length : Int)) = True := eq_true (by omega)
      have c2 : ((p : Int) < 0) = False := eq_false (by omega)
      have c3 : ((ls.length : Int) ≤ (p : Int)) = False := eq_false (by omega)
      have hw : IntKind.i64.wrap ((i : Int) + 1) = ((i + 1 : Nat) : Int) := by rw [wrap64] <;> omega
      by_cases hi0 : i = 0
      · have c4 : (0 < (i : Int)) = False := eq_false (by omega)
        simp only [go_sem, ↓reduceIte, reduceCtorEq, Nat.reduceAdd, Nat.reduceMul, Nat.reduceEqDiff, Nat.reduceSub, Nat.reduceLT, Nat.reduceLeDiff, Nat.reduceAnd, Nat.reduceShiftRight, Nat.reduceBEq, Nat.reduceBNe, Nat.reduceBneDiff, Nat.reduceBeqDiff, Int.reduceToNat, Int.reduceLE, Int.reduceLT, Int.reduceEq, hv, hx, hxk, c1, c2, c3, c4, hw]
        exact ⟨i + 1, by omega, by omega, rfl⟩
      · have hu : (placesOf (n : Int) ls 0)[i - 1]? = some ((placesOf (n : Int) ls 0)[i - 1]'(by omega)) := List.getElem?_eq_getElem (by omega)
        have hup1 := hup (i - 1) _ _ hu (by rw [show i - 1 + 1 = i by omega]; exact hv)
        have c4 : (0 < (i : Int)) = True := eq_true (by omega)
        have c5 : ((p : Int) ≤ (placesOf (n : Int) ls 0)[i - 1]'(by omega)) = False := eq_false (by omega)
        have hw1 : IntKind.i64.wrap ((i : Int) - 1) = ((i - 1 : Nat) : Int) := by rw [wrap64] <;> omega
        simp only [go_sem, ↓reduceIte, reduceCtorEq, Nat.reduceAdd, Nat.reduceMul, Nat.reduceEqDiff, Nat.reduceSub, Nat.reduceLT, Nat.reduceLeDiff, Nat.reduceAnd, Nat.reduceShiftRight, Nat.reduceBEq, Nat.reduceBNe, Nat.reduceBneDiff, Nat.reduceBeqDiff, Int.reduceToNat, Int.reduceLE, Int.reduceLT, Int.reduceEq, hv, hx, hxk, hu, c1, c2, c3, c4, c5, hw, hw1]
        exact ⟨i + 1, by omega, by omega, rfl⟩
    · have c1 : ((i : Int) < ((placesOf (n : Int) ls 0).length : Int)) = False := eq_false (by omega)
      simp only [go_sem, ↓reduceIte, reduceCtorEq, Nat.reduceAdd, Nat.reduceMul, Nat.reduceEqDiff, Nat.reduceSub, Nat.reduceLT, Nat.reduceLeDiff, Nat.reduceAnd, Nat.reduceShiftRight, Nat.reduceBEq, Nat.reduceBNe, Nat.reduceBneDiff, Nat.reduceBeqDiff, Int.reduceToNat, Int.reduceLE, Int.reduceLT, Int.reduceEq, c1]
      have hb1 : below ((n : Int) + 1) ls ≤ ls.length := List.countP_le_length
      have hc : ((n + 1 : Nat) : Int) = (n : Int) + 1 := by omega
      have w1 : IntKind.i64.wrap (s + ((placesOf (n : Int) ls 0).length : Int)) = ((below ((n : Int) + 1) ls : Nat) : Int) := by rw [wrap64] <;> omega
      have w2 : IntKind.i64.wrap ((n : Int) + 1) = ((n + 1 : Nat) : Int) := by rw [wrap64] <;> omega
      rw [w1, w2]
      exact ⟨(n + 1, (below ((n : Int) + 1) ls : Nat)), ⟨by dsimp only; omega, by dsimp only; rw [hc]⟩, by dsimp only; omega, rfl⟩
  · simp only [go_sem, ↓reduceIte, reduceCtorEq, Nat.reduceAdd, Nat.reduceMul, Nat.reduceEqDiff, Nat.reduceSub, Nat.reduceLT, Nat.reduceLeDiff, Nat.reduceAnd, Nat.reduceShiftRight, Nat.reduceBEq, Nat.reduceBNe, Nat.reduceBneDiff, Nat.reduceBeqDiff, Int.reduceToNat, Int.reduceLE, Int.reduceLT, Int.reduceEq, hn2]
    have hn3 : (n : Int) = 21 := by omega
    rw [hn3, below_all hall] at hs
    obtain ⟨t1, t2, t3⟩ := takeM_law k hb
    have tsub := takeM_sub k hb
    dsimp only at t1 t3 tsub
    have htl := tsub.length_le
    have wq : IntKind.i64.wrap ((ls.length : Int) - if 0 < (ls.length : Int) then 1 else 0) = (ls.length : Int) - if decide (0 < (ls.length : Int)) = true then 1 else 0 := by
      by_cases h0 : 0 < (ls.length : Int) <;> (simp [h0]; rw [wrap64] <;> omega)
    refine ⟨by omega, ?_⟩
    rw [if_pos hs, hs, t1, if_neg (by simp)]
    refine LoopV.go (H := H_laws_FnBagPlaces) ok_H_laws_FnBagPlaces (by kernel_rfl) (fun y : Nat × Nat => ⟨[(3, .x (.o (.p (1, 100) 0 0 1))), (5, sc (.int .i64 (ls.length : Int))), (9, .x (.o (.p (1, 101) 0 0 1))), (11, sc (.bool (decide (0 < (ls.length : Int))))), (12, sc (.int .i64 y.2)), (13, sc (.int .i64 y.1))],
      [((1, 100), .bx [[.c (.v (.int .i64 r)), .c (.s (ls.map cLetter.enc))]]), ((1, 101), .bx [[.c (.v (.int .i64 (takeM (r, ls) k).1.1)), .c (.s ((takeM (r, ls) k).1.2.map cLetter.enc))]])], 2⟩)
      (fun y => ls.length - y.1) (fun y => y.1 ≤ ls.length ∧ y.2 ≤ (takeM (r, ls) k).1.2.length ∧ ((takeM (r, ls) k).1.2.drop y.2).Sublist (ls.drop y.1)) ?_ (0, 0) ⟨Nat.zero_le _, Nat.zero_le _, by simpa using tsub⟩
    rintro ⟨i, j⟩ ⟨j1, j2, j3⟩
    dsimp only at j1 j2 j3
    by_cases hi : i < ls.length
    · have c1 : ((i : Int) < (ls.length : Int)) = True := eq_true (by omega)
      by_cases hj : j < (takeM (r, ls) k).1.2.length
      · have c2 : ((j : Int) < ((takeM (r, ls) k).1.2.length : Int)) = True := eq_true (by omega)
        have hx : ls[i]? = some ls[i] := List.getElem?_eq_getElem hi
        have hy : (takeM (r, ls) k).1.2[j]? = some (takeM (r, ls) k).1.2[j] := List.getElem?_eq_getElem hj
        have w1 : IntKind.i64.wrap ((i : Int) + 1) = ((i + 1 : Nat) : Int) := by rw [wrap64] <;> omega
        have w2 : IntKind.i64.wrap ((j : Int) + 1) = ((j + 1 : Nat) : Int) := by rw [wrap64] <;> omega
        have e1 : ls.drop i = ls[i] :: ls.drop (i + 1) := List.drop_eq_getElem_cons hi
        have e2 : (takeM (r, ls) k).1.2.drop j = (takeM (r, ls) k).1.2[j] :: (takeM (r, ls) k).1.2.drop (j + 1) := List.drop_eq_getElem_cons hj
        rw [e1, e2] at j3
        simp only [go_sem, ↓reduceIte, reduceCtorEq, Nat.reduceAdd, Nat.reduceMul, Nat.reduceEqDiff, Nat.reduceSub, Nat.reduceLT, Nat.reduceLeDiff, Nat.reduceAnd, Nat.reduceShiftRight, Nat.reduceBEq, Nat.reduceBNe, Nat.reduceBneDiff, Nat.reduceBeqDiff, Int.reduceToNat, Int.reduceLE, Int.reduceLT, Int.reduceEq, c1, c2, hx, hy, w1, w2]
        refine ite_intro (fun c => ?_) fun c => ?_
        · have he : ls[i] = (takeM (r, ls) k).1.2[j] := by
            simp only [Bool.and_eq_true, decide_eq_true_eq] at c
            exact Prod.ext c.1 (Prod.ext c.2.1 c.2.2)
          rw [he] at j3
          exact ⟨(i + 1, j + 1), ⟨by dsimp only; omega, by dsimp only; omega, List.cons_sublist_cons.1 j3⟩, by dsimp only; omega, rfl⟩
        · have he : ls[i] ≠ (takeM (r, ls) k).1.2[j] := fun e => c (by simp [e])
          have j4 := sub_ne j3 he
          exact ⟨(i + 1, j), ⟨by dsimp only; omega, by dsimp only; omega, by dsimp only; rw [e2]; exact j4⟩, by dsimp only; omega, rfl⟩
      · have c2 : ((j : Int) < ((takeM (r, ls) k).1.2.length : Int)) = False := eq_false (by omega)
        simp only [go_sem, ↓reduceIte, reduceCtorEq, Nat.reduceAdd, Nat.reduceMul, Nat.reduceEqDiff, Nat.reduceSub, Nat.reduceLT, Nat.reduceLeDiff, Nat.reduceAnd, Nat.reduceShiftRight, Nat.reduceBEq, Nat.reduceBNe, Nat.reduceBneDiff, Nat.reduceBeqDiff, Int.reduceToNat, Int.reduceLE, Int.reduceLT, Int.reduceEq, c1, c2]
        have hj' : j = (takeM (r, ls) k).1.2.length := by omega
        rw [if_pos (by omega), wq, ← t1, ← t3]
        simp
    · have c1 : ((i : Int) < (ls.length : Int)) = False := eq_false (by omega)
      have e0 : ls.drop i = [] := List.drop_eq_nil_of_le (by omega)
      rw [e0] at j3
      have j4 := List.drop_eq_nil_iff.1 (List.sublist_nil.1 j3)
      simp only [go_sem, ↓reduceIte, reduceCtorEq, Nat.reduceAdd, Nat.reduceMul, Nat.reduceEqDiff, Nat.reduceSub, Nat.reduceLT, Nat.reduceLeDiff, Nat.reduceAnd, Nat.reduceShiftRight, Nat.reduceBEq, Nat.reduceBNe, Nat.reduceBneDiff, Nat.reduceBeqDiff, Int.reduceToNat, Int.reduceLE, Int.reduceLT, Int.reduceEq, c1]
      rw [if_pos (by omega), wq, ← t1, ← t3]
      simp

end Go.Proofs.YtobfeplphdnhfaaW.V

