/- Functions: paths. No condition but each theorem's own. -/
import Derived.Test.YtcgkhljolflenaaGreatFQN
namespace Go.Proofs.YtcgkhljolflenaaGreatW.V
open Go Go.Proofs
set_option linter.unusedSimpArgs false
set_option linter.unusedVariables false
set_option maxRecDepth 8000
set_option maxHeartbeats 4000000

set_option synthInstance.maxSize 1000

/-- The way down to a leaf: to the left where it is true. -/
def dirsM (n i : Nat) : List Bool :=
  if h : 2 ≤ n then (if i < splitN n then true :: dirsM (splitN n) i else false :: dirsM (n - splitN n) (i - splitN n)) else []
termination_by n
decreasing_by
  · exact splitN_lt h
  · have := splitN_pos n; omega
theorem dirsM_l {n i : Nat} (h : 2 ≤ n) (hi : i < splitN n) : dirsM n i = true :: dirsM (splitN n) i := by
  rw [dirsM, dif_pos h, if_pos hi]
theorem dirsM_r {n i : Nat} (h : 2 ≤ n) (hi : ¬ i < splitN n) : dirsM n i = false :: dirsM (n - splitN n) (i - splitN n) := by
  rw [dirsM, dif_pos h, if_neg hi]
theorem dirsM_0 {n i : Nat} (h : ¬ 2 ≤ n) : dirsM n i = [] := by rw [dirsM, dif_neg h]
theorem dirsM_len : ∀ (n i : Nat), (dirsM n i).length ≤ n := by
  intro n
  induction n using Nat.strongRecOn with
  | _ n ih =>
    intro i
    by_cases h : 2 ≤ n
    · have h1 := splitN_lt h
      have h2 := splitN_pos n
      by_cases hi : i < splitN n
      · rw [dirsM_l h hi, List.length_cons]; have := ih _ h1 i; omega
      · rw [dirsM_r h hi, List.length_cons]; have := ih (n - splitN n) (by omega) (i - splitN n); omega
    · rw [dirsM_0 h]; exact Nat.zero_le _

def placeOk (n i : Int) : Bool := decide (1 ≤ n ∧ n ≤ 256) && decide (0 ≤ i ∧ i ≤ n - 1)
def plenM (n i : Int) : Int := if placeOk n i then ((dirsM n.toNat i.toNat).length : Int) else -1
theorem placeOk_iff {n i : Int} (h : placeOk n i = true) : (1 ≤ n ∧ n ≤ 256) ∧ 0 ≤ i ∧ i ≤ n - 1 := by
  simpa [placeOk] using h
abbrev MPlace : FM := .f2 (eInt .i64) (eInt .i64) eBool.enc placeOk (fun _ _ => True)
abbrev MPlen : FM := .f2 (eInt .i64) (eInt .i64) (eInt .i64).enc plenM (fun _ _ => True)
attribute [go_sem] MPlace MPlen

def H_spec_l3Place : Hint := { fs := [(89, M166)], kp := [(0, [0, 1]), (1, [0, 1])], an := [] }
attribute [go_sem] H_spec_l3Place
theorem ok_H_spec_l3Place : H_spec_l3Place.ok Tryz.prog := AllOk.okR (.cons m166 .nil) .nil mix
theorem f_l3Place (n i : Int) : VFun Tryz.prog 71 [(eInt .i64).enc n, (eInt .i64).enc i] [] (eBool.enc (placeOk n i)) [] := by
  refine VFun_pure (n := 13) (rs := [.tmp 4]) Tryz.func71 rfl rfl rfl rfl H_spec_l3Place ok_H_spec_l3Place _ _ (Nat.le_of_ble_eq_true rfl) (by kernel_rfl) ?_
  by_cases h : 1 ≤ n ∧ n ≤ 256
  · have w1 : IntKind.i64.wrap (n - 1) = n - 1 := wrap64 (by omega) (by omega)
    simp only [go_sem, ↓reduceIte, reduceCtorEq, Nat.reduceAdd, Nat.reduceMul, Nat.reduceEqDiff, Nat.reduceSub, Nat.reduceLT, Nat.reduceLeDiff, Nat.reduceAnd, Nat.reduceShiftRight, Nat.reduceBEq, Nat.reduceBNe, Nat.reduceBneDiff, Nat.reduceBeqDiff, Int.reduceToNat, Int.reduceLE, Int.reduceLT, Int.reduceEq, h, w1]
    unfold placeOk
    rw [decide_eq_true h, Bool.true_and]
  · simp only [go_sem, ↓reduceIte, reduceCtorEq, Nat.reduceAdd, Nat.reduceMul, Nat.reduceEqDiff, Nat.reduceSub, Nat.reduceLT, Nat.reduceLeDiff, Nat.reduceAnd, Nat.reduceShiftRight, Nat.reduceBEq, Nat.reduceBNe, Nat.reduceBneDiff, Nat.reduceBeqDiff, Int.reduceToNat, Int.reduceLE, Int.reduceLT, Int.reduceEq, h]
    unfold placeOk
    rw [decide_eq_false h, Bool.false_and]
theorem ok_spec_l3Place : MPlace.ok Tryz.prog 71 := FM.f2_ok fun n i _ => f_l3Place n i

def H_spec_PathLen : Hint := { fs := [(45, MSplit), (71, MPlace)], kp := [(0, [0, 1]), (1, [0, 1]), (2, []), (3, [0, 1]), (4, [0, 1, 5]), (5, [0, 1, 5]), (6, [0, 1, 5, 6]), (7, [1, 5, 6]), (8, [0, 1, 5, 6]), (9, [0, 1, 5, 6]), (10, [0, 1, 5]), (11, [5])], an := [] }
attribute [go_sem] H_spec_PathLen
theorem ok_H_spec_PathLen : H_spec_PathLen.ok Tryz.prog := AllOk.okR (.cons ok_spec_TreeSplit (.cons ok_spec_l3Place .nil)) .nil mix
theorem f_spec_PathLen (n i : Int) : VFun Tryz.prog 72 [(eInt .i64).enc n, (eInt .i64).enc i] [] ((eInt .i64).enc (plenM n i)) [] := by
  refine VFun_pure (n := 28) (rs := [.tmp 4]) Tryz.func72 rfl rfl rfl rfl H_spec_PathLen ok_H_spec_PathLen _ _ (Nat.le_of_ble_eq_true rfl) (by kernel_rfl) ?_
  simp only [go_sem, ↓reduceIte, reduceCtorEq, Nat.reduceAdd, Nat.reduceMul, Nat.reduceEqDiff, Nat.reduceSub, Nat.reduceLT, Nat.reduceLeDiff, Nat.reduceAnd, Nat.reduceShiftRight, Nat.reduceBEq, Nat.reduceBNe, Nat.reduceBneDiff, Nat.reduceBeqDiff, Int.reduceToNat, Int.reduceLE, Int.reduceLT, Int.reduceEq]
  refine ite_intro (fun h => ?_) fun h => ?_
  · unfold plenM; rw [if_neg (by simp [h])]
  have hp : placeOk n i = true := by simpa using h
  obtain ⟨h1, h2, h3⟩ := placeOk_iff hp
  obtain ⟨n, rfl⟩ := Int.eq_ofNat_of_zero_le (show 0 ≤ n by omega)
  obtain ⟨i, rfl⟩ := Int.eq_ofNat_of_zero_le h2
  have hd := dirsM_len n i
  have he : plenM n i = ((dirsM n i).length : Int) := by unfold plenM; rw [if_pos hp]; rfl
  rw [he]
  generalize hD : (dirsM n i).length = D at hd
  refine LoopV.go (H := H_spec_PathLen) ok_H_spec_PathLen (by kernel_rfl) (fun y : Nat × Nat × Nat => ⟨[(0, sc (.int .i64 y.1)), (1, sc (.int .i64 y.2.1)), (5, sc (.int .i64 y.2.2))], [], 2⟩) (fun y => y.1) (fun y => y.1 ≤ n ∧ y.2.1 ≤ n ∧ y.2.2 ≤ D ∧ (dirsM y.1 y.2.1).length + y.2.2 = D) ?_ (n, i, 0) ⟨by dsimp only; omega, by dsimp only; omega, by dsimp only; omega, by dsimp only; omega⟩
  rintro ⟨m, j, d⟩ ⟨j1, j2, j3, j4⟩
  dsimp only at j1 j2 j3 j4
  by_cases hm : 2 ≤ m
  · have s1 := splitN_lt hm
    have s2 := splitN_pos m
    have s3 := splitM_in hm (by omega)
    have c1 : (1 < (m : Int)) = True := eq_true (by omega)
    have w1 : IntKind.i64.wrap ((d : Int) + 1) = ((d + 1 : Nat) : Int) := by rw [wrap64] <;> omega
    by_cases hj : j < splitN m
    · have c2 : ((j : Int) < ((splitN m : Nat) : Int)) = True := eq_true (by omega)
      rw [dirsM_l hm hj, List.length_cons] at j4
      simp only [go_sem, ↓reduceIte, reduceCtorEq, Nat.reduceAdd, Nat.reduceMul, Nat.reduceEqDiff, Nat.reduceSub, Nat.reduceLT, Nat.reduceLeDiff, Nat.reduceAnd, Nat.reduceShiftRight, Nat.reduceBEq, Nat.reduceBNe, Nat.reduceBneDiff, Nat.reduceBeqDiff, Int.reduceToNat, Int.reduceLE, Int.reduceLT, Int.reduceEq, c1, s3, c2, w1]
      exact ⟨(splitN m, j, d + 1), ⟨by dsimp only; omega, by dsimp only; omega, by dsimp only; omega, by dsimp only; omega⟩, by dsimp only; omega, rfl⟩
    · have c2 : ((j : Int) < ((splitN m : Nat) : Int)) = False := eq_false (by omega)
      rw [dirsM_r hm hj, List.length_cons] at j4
      have w2 : IntKind.i64.wrap ((j : Int) - ((splitN m : Nat) : Int)) = ((j - splitN m : Nat) : Int) := by rw [wrap64] <;> omega
      have w3 : IntKind.i64.wrap ((m : Int) - ((splitN m : Nat) : Int)) = ((m - splitN m : Nat) : Int) := by rw [wrap64] <;> omega
      simp only [go_sem, ↓reduceIte, reduceCtorEq, Nat.reduceAdd, Nat.reduceMul, Nat.reduceEqDiff, Nat.reduceSub, Nat.reduceLT, Nat.reduceLeDiff, Nat.reduceAnd, Nat.reduceShiftRight, Nat.reduceBEq, Nat.reduceBNe, Nat.reduceBneDiff, Nat.reduceBeqDiff, Int.reduceToNat, Int.reduceLE, Int.reduceLT, Int.reduceEq, c1, s3, c2, w1, w2, w3]
      exact ⟨(m - splitN m, j - splitN m, d + 1), ⟨by dsimp only; omega, by dsimp only; omega, by dsimp only; omega, by dsimp only; omega⟩, by dsimp only; omega, rfl⟩
  · have c1 : (1 < (m : Int)) = False := eq_false (by omega)
    rw [dirsM_0 hm, List.length_nil] at j4
    simp only [go_sem, ↓reduceIte, reduceCtorEq, Nat.reduceAdd, Nat.reduceMul, Nat.reduceEqDiff, Nat.reduceSub, Nat.reduceLT, Nat.reduceLeDiff, Nat.reduceAnd, Nat.reduceShiftRight, Nat.reduceBEq, Nat.reduceBNe, Nat.reduceBneDiff, Nat.reduceBeqDiff, Int.reduceToNat, Int.reduceLE, Int.reduceLT, Int.reduceEq, c1]
    rw [show d = D by omega]
theorem ok_spec_PathLen : MPlen.ok Tryz.prog 72 := FM.f2_ok fun n i _ => f_spec_PathLen n i

/-- The nodes that a leaf is in. -/
def wayM (lo hi i : Nat) : List (Int × Int) :=
  if h : 2 ≤ hi - lo then ((lo : Int), (hi : Int)) :: (if i < lo + splitN (hi - lo) then wayM lo (lo + splitN (hi - lo)) i else wayM (lo + splitN (hi - lo)) hi i) else []
termination_by hi - lo
decreasing_by
  · have := splitN_lt h; omega
  · have := splitN_pos (hi - lo); omega
theorem wayM_l {lo hi i : Nat} (h : 2 ≤ hi - lo) (hi' : i < lo + splitN (hi - lo)) : wayM lo hi i = ((lo : Int), (hi : Int)) :: wayM lo (lo + splitN (hi - lo)) i := by
  rw [wayM, dif_pos h, if_pos hi']
theorem wayM_r {lo hi i : Nat} (h : 2 ≤ hi - lo) (hi' : ¬ i < lo + splitN (hi - lo)) : wayM lo hi i = ((lo : Int), (hi : Int)) :: wayM (lo + splitN (hi - lo)) hi i := by
  rw [wayM, dif_pos h, if_neg hi']
theorem wayM_0 {lo hi i : Nat} (h : ¬ 2 ≤ hi - lo) : wayM lo hi i = [] := by rw [wayM, dif_neg h]
theorem wayM_len : ∀ (m lo hi i : Nat), hi - lo = m → (wayM lo hi i).length ≤ m := by
  intro m
  induction m using Nat.strongRecOn with
  | _ m ih =>
    intro lo hi i hm
    by_cases h : 2 ≤ hi - lo
    · have h1 := splitN_lt h
      have h2 := splitN_pos (hi - lo)
      by_cases hi' : i < lo + splitN (hi - lo)
      · rw [wayM_l h hi', List.length_cons]; have := ih (splitN (hi - lo)) (by omega) lo (lo + splitN (hi - lo)) i (by omega); omega
      · rw [wayM_r h hi', List.length_cons]; have := ih (hi - (lo + splitN (hi - lo))) (by omega) (lo + splitN (hi - lo)) hi i rfl; omega
    · rw [wayM_0 h]; exact Nat.zero_le _
/-- Each node, and to which side the way goes on from it. -/
theorem wayM_at : ∀ (m lo hi i : Nat), hi - lo = m → m ≤ 256 → lo ≤ i → (wayM lo hi i).length = (dirsM (hi - lo) (i - lo)).length ∧ ∀ (k : Nat) (x : Int × Int), (wayM lo hi i)[k]? = some x → ((lo : Int) ≤ x.1 ∧ x.1 + 2 ≤ x.2 ∧ x.2 ≤ hi) ∧ (dirsM (hi - lo) (i - lo))[k]? = some (decide ((i : Int) < x.1 + splitM (x.2 - x.1))) := by
  intro m
  induction m using Nat.strongRecOn with
  | _ m ih =>
    intro lo hi i hm hle hli
    by_cases h : 2 ≤ hi - lo
    · have s1 := splitN_lt h
      have s2 := splitN_pos (hi - lo)
      have s3 := splitM_in h (by omega)
      have s4 : (hi : Int) - lo = ((hi - lo : Nat) : Int) := by omega
      by_cases hi' : i < lo + splitN (hi - lo)
      · obtain ⟨a1, a2⟩ := ih (splitN (hi - lo)) (by omega) lo (lo + splitN (hi - lo)) i (by omega) (by omega) hli
        have e1 : lo + splitN (hi - lo) - lo = splitN (hi - lo) := by omega
        rw [e1] at a1 a2
        rw [wayM_l h hi', dirsM_l h (by omega)]
        refine ⟨by rw [List.length_cons, List.length_cons, a1], fun k x hx => ?_⟩
        cases k with
        | zero =>
          rw [List.getElem?_cons_zero] at hx ⊢
          cases hx
          refine ⟨by dsimp only; omega, ?_⟩
          dsimp only
          rw [s4, s3, decide_eq_true (by omega)]
        | succ k =>
          rw [List.getElem?_cons_succ] at hx ⊢
          obtain ⟨b1, b2⟩ := a2 k x hx
          exact ⟨by omega, b2⟩
      · obtain ⟨a1, a2⟩ := ih (hi - (lo + splitN (hi - lo))) (by omega) (lo + splitN (hi - lo)) hi i rfl (by omega) (by omega)
        have e1 : hi - (lo + splitN (hi - lo)) = hi - lo - splitN (hi - lo) := by omega
        have e2 : i - (lo + splitN (hi - lo)) = i - lo - splitN (hi - lo) := by omega
        rw [e1, e2] at a1 a2
        rw [wayM_r h hi', dirsM_r h (by omega)]
        refine ⟨by rw [List.length_cons, List.length_cons, a1], fun k x hx => ?_⟩
        cases k with
        | zero =>
          rw [List.getElem?_cons_zero] at hx ⊢
          cases hx
          refine ⟨by dsimp only; omega, ?_⟩
          dsimp only
          rw [s4, s3, decide_eq_false (by omega)]
        | succ k =>
          rw [List.getElem?_cons_succ] at hx ⊢
          obtain ⟨b1, b2⟩ := a2 k x hx
          exact ⟨by omega, b2⟩
    · rw [wayM_0 h, dirsM_0 h]
      exact ⟨rfl, fun k x hx => by simp at hx⟩

def H_impl_way : Hint := { fs := [(59, MHalves)], kp := [(0, [0, 1]), (1, [0, 1]), (2, [0, 1, 5]), (3, [1, 5, 6]), (4, [1, 5, 6]), (5, [1, 5, 6]), (6, [1, 5, 6, 7, 8]), (7, [1, 5, 6, 7]), (8, [1, 5, 6, 7]), (9, [5])], an := [], nl := [(2, [(5, 2)])] }
attribute [go_sem] H_impl_way
theorem ok_H_impl_way : H_impl_way.ok Tryz.prog := AllOk.okR (.cons ok_impl_node_halves .nil) .nil mix
theorem f_way (n i : Nat) (h : n ≤ 256) (hi : i ≤ 256) : VFun Tryz.prog 58 [(eInt .i64).enc n, (eInt .i64).enc i] [] ((eList cNode).enc (wayM 0 n i)) [] := by
  have hl := wayM_len n 0 n i rfl
  refine VFun_pure (n := 33) (rs := [.tmp 4]) Tryz.func58 rfl rfl rfl rfl H_impl_way ok_H_impl_way _ _ (Nat.le_of_ble_eq_true rfl) (by kernel_rfl) ?_
  simp only [go_sem, ↓reduceIte, reduceCtorEq, Nat.reduceAdd, Nat.reduceMul, Nat.reduceEqDiff, Nat.reduceSub, Nat.reduceLT, Nat.reduceLeDiff, Nat.reduceAnd, Nat.reduceShiftRight, Nat.reduceBEq, Nat.reduceBNe, Nat.reduceBneDiff, Nat.reduceBeqDiff, Int.reduceToNat, Int.reduceLE, Int.reduceLT, Int.reduceEq]
  refine LoopV.go (H := H_impl_way) ok_H_impl_way (by kernel_rfl) (fun y : List (Int × Int) × Nat × Nat => ⟨[(1, sc (.int .i64 i)), (5, .x (.o (.h (1, 100) 0 y.1.length y.1.length))), (6, .x (.o (.p (1, 101) 0 0 1)))], [((1, 100), .row 2 (y.1.map cNode.enc)), ((1, 101), .bx [[.c (.v (.int .i64 y.2.1)), .c (.v (.int .i64 y.2.2))]])], 2⟩) (fun y => y.2.2 - y.2.1) (fun y => y.2.1 ≤ y.2.2 ∧ y.2.2 ≤ n ∧ y.1 ++ wayM y.2.1 y.2.2 i = wayM 0 n i) ?_ ([], 0, n) ⟨by dsimp only; omega, by dsimp only; omega, rfl⟩
  rintro ⟨acc, lo, hi⟩ ⟨j1, j2, j3⟩
  dsimp only at j1 j2 j3
  have hla := congrArg List.length j3
  rw [List.length_append] at hla
  have w1 : IntKind.i64.wrap ((hi : Int) - (lo : Int)) = ((hi - lo : Nat) : Int) := by rw [wrap64] <;> omega
  by_cases hm : 2 ≤ hi - lo
  · have s1 := splitN_lt hm
    have s2 := splitN_pos (hi - lo)
    have s3 := splitM_in hm (by omega)
    have s4 : (hi : Int) - lo = ((hi - lo : Nat) : Int) := by omega
    have c1 : (1 < ((hi - lo : Nat) : Int)) = True := eq_true (by omega)
    have hh : halvesM ((lo : Int), (hi : Int)) = (((lo : Int), ((lo + splitN (hi - lo) : Nat) : Int)), (((lo + splitN (hi - lo) : Nat) : Int), (hi : Int))) := by
      unfold halvesM
      dsimp only
      rw [s4, s3]; rfl
    by_cases hj : i < lo + splitN (hi - lo)
    · have c2 : ((i : Int) < ((lo + splitN (hi - lo) : Nat) : Int)) = True := eq_true (by omega)
      rw [wayM_l hm hj] at j3
      simp only [go_sem, ↓reduceIte, reduceCtorEq, Nat.reduceAdd, Nat.reduceMul, Nat.reduceEqDiff, Nat.reduceSub, Nat.reduceLT, Nat.reduceLeDiff, Nat.reduceAnd, Nat.reduceShiftRight, Nat.reduceBEq, Nat.reduceBNe, Nat.reduceBneDiff, Nat.reduceBeqDiff, Int.reduceToNat, Int.reduceLE, Int.reduceLT, Int.reduceEq, w1, c1, hh, c2]
      exact ⟨by omega, by omega, (acc ++ [((lo : Int), (hi : Int))], lo, lo + splitN (hi - lo)), ⟨by dsimp only; omega, by dsimp only; omega, by rw [← j3, List.append_assoc]; rfl⟩, by dsimp only; omega, by simp [cNode]; rfl⟩
    · have c2 : ((i : Int) < ((lo + splitN (hi - lo) : Nat) : Int)) = False := eq_false (by omega)
      rw [wayM_r hm hj] at j3
      simp only [go_sem, ↓reduceIte, reduceCtorEq, Nat.reduceAdd, Nat.reduceMul, Nat.reduceEqDiff, Nat.reduceSub, Nat.reduceLT, Nat.reduceLeDiff, Nat.reduceAnd, Nat.reduceShiftRight, Nat.reduceBEq, Nat.reduceBNe, Nat.reduceBneDiff, Nat.reduceBeqDiff, Int.reduceToNat, Int.reduceLE, Int.reduceLT, Int.reduceEq, w1, c1, hh, c2]
      exact ⟨by omega, by omega, (acc ++ [((lo : Int), (hi : Int))], lo + splitN (hi - lo), hi), ⟨by dsimp only; omega, by dsimp only; omega, by rw [← j3, List.append_assoc]; rfl⟩, by dsimp only; omega, by simp [cNode]; rfl⟩
  · have c1 : (1 < ((hi - lo : Nat) : Int)) = False := eq_false (by omega)
    rw [wayM_0 hm, List.append_nil] at j3
    simp only [go_sem, ↓reduceIte, reduceCtorEq, Nat.reduceAdd, Nat.reduceMul, Nat.reduceEqDiff, Nat.reduceSub, Nat.reduceLT, Nat.reduceLeDiff, Nat.reduceAnd, Nat.reduceShiftRight, Nat.reduceBEq, Nat.reduceBNe, Nat.reduceBneDiff, Nat.reduceBeqDiff, Int.reduceToNat, Int.reduceLE, Int.reduceLT, Int.reduceEq, w1, c1]
    rw [j3]
abbrev MWay : FM := .f2 (eInt .i64) (eInt .i64) (eList cNode).enc (fun n i => wayM 0 n.toNat i.toNat) (fun n i => 0 ≤ n ∧ n ≤ 256 ∧ 0 ≤ i ∧ i ≤ 256)
attribute [go_sem] MWay
theorem ok_impl_way : MWay.ok Tryz.prog 58 := FM.f2_ok fun n i h => by
  obtain ⟨n, rfl⟩ := Int.eq_ofNat_of_zero_le h.1
  obtain ⟨i, rfl⟩ := Int.eq_ofNat_of_zero_le h.2.2.1
  exact f_way n i (by omega) (by omega)

theorem plen_way {n i : Nat} (h : n ≤ 256) : (wayM 0 n i).length = (dirsM n i).length := by
  have := (wayM_at n 0 n i rfl h (Nat.zero_le _)).1
  simpa using this

def H_impl_PathLen : Hint := { fs := [(58, MWay), (96, M166)], kp := [(0, [0, 1]), (1, [0, 1]), (2, []), (3, [0, 1])], an := [] }
attribute [go_sem] H_impl_PathLen
theorem ok_H_impl_PathLen : H_impl_PathLen.ok Tryz.prog := AllOk.okR (.cons ok_impl_way (.cons m180 .nil)) .nil mix
theorem f_impl_PathLen (n i : Int) : VFun Tryz.prog 54 [(eInt .i64).enc n, (eInt .i64).enc i] [] ((eInt .i64).enc (plenM n i)) [] := by
  refine VFun_pure (n := 19) (rs := [.tmp 4]) Tryz.func54 rfl rfl rfl rfl H_impl_PathLen ok_H_impl_PathLen _ _ (Nat.le_of_ble_eq_true rfl) (by kernel_rfl) ?_
  by_cases h : 1 ≤ n ∧ n ≤ 256
  case neg =>
    simp only [go_sem, ↓reduceIte, reduceCtorEq, Nat.reduceAdd, Nat.reduceMul, Nat.reduceEqDiff, Nat.reduceSub, Nat.reduceLT, Nat.reduceLeDiff, Nat.reduceAnd, Nat.reduceShiftRight, Nat.reduceBEq, Nat.reduceBNe, Nat.reduceBneDiff, Nat.reduceBeqDiff, Int.reduceToNat, Int.reduceLE, Int.reduceLT, Int.reduceEq, h]
    unfold plenM placeOk
    rw [decide_eq_false h, Bool.false_and]; rfl
  have w1 : IntKind.i64.wrap (n - 1) = n - 1 := wrap64 (by omega) (by omega)
  by_cases h2 : 0 ≤ i ∧ i ≤ n - 1
  case neg =>
    simp only [go_sem, ↓reduceIte, reduceCtorEq, Nat.reduceAdd, Nat.reduceMul, Nat.reduceEqDiff, Nat.reduceSub, Nat.reduceLT, Nat.reduceLeDiff, Nat.reduceAnd, Nat.reduceShiftRight, Nat.reduceBEq, Nat.reduceBNe, Nat.reduceBneDiff, Nat.reduceBeqDiff, Int.reduceToNat, Int.reduceLE, Int.reduceLT, Int.reduceEq, h, w1, h2]
    unfold plenM placeOk
    rw [decide_eq_false h2, Bool.and_false]; rfl
  have hp : placeOk n i = true := by unfold placeOk; rw [decide_eq_true h, decide_eq_true h2]; rfl
  have he : plenM n i = ((dirsM n.toNat i.toNat).length : Int) := by unfold plenM; rw [if_pos hp]
  simp only [go_sem, ↓reduceIte, reduceCtorEq, Nat.reduceAdd, Nat.reduceMul, Nat.reduceEqDiff, Nat.reduceSub, Nat.reduceLT, Nat.reduceLeDiff, Nat.reduceAnd, Nat.reduceShiftRight, Nat.reduceBEq, Nat.reduceBNe, Nat.reduceBneDiff, Nat.reduceBeqDiff, Int.reduceToNat, Int.reduceLE, Int.reduceLT, Int.reduceEq, h, w1, h2]
  rw [he, plen_way (by omega)]
  exact ⟨by omega, rfl⟩
theorem ok_impl_PathLen : MPlen.ok Tryz.prog 54 := FM.f2_ok fun n i _ => f_impl_PathLen n i

def pathB (n i : Int) (leaf : ByteArray) (path : List Digest) : Bool := placeOk n i && decide ((leaf.size : Int) ≤ 40) && decide ((path.length : Int) = plenM n i)
abbrev MPathB : FM := .f4 (eInt .i64) (eInt .i64) eStr (eList cDigest) eBool.enc pathB (fun _ _ _ _ => True)
attribute [go_sem] MPathB
def H_impl_pathOk : Hint := { fs := [(54, MPlen)], kp := [(0, [0, 1, 2, 3]), (1, [0, 1, 2, 3]), (2, [2, 3, 9])], an := [] }
attribute [go_sem] H_impl_pathOk
theorem ok_H_impl_pathOk : H_impl_pathOk.ok Tryz.prog := AllOk.okR (.cons ok_impl_PathLen .nil) .nil mix
theorem f_pathOk (n i : Int) (leaf : ByteArray) (path : List Digest) : VFun Tryz.prog 29 [(eInt .i64).enc n, (eInt .i64).enc i, eStr.enc leaf, (eList cDigest).enc path] [] (eBool.enc (pathB n i leaf path)) [] := by
  have hp : (0 ≤ plenM n i) = (placeOk n i = true) := by
    unfold plenM
    by_cases h : placeOk n i = true
    · rw [if_pos h]; simp [h]
    · rw [if_neg h]; simp [h]
  refine VFun_pure (n := 26) (rs := [.tmp 8]) Tryz.func29 rfl rfl rfl rfl H_impl_pathOk ok_H_impl_pathOk _ _ (Nat.le_of_ble_eq_true rfl) (by kernel_rfl) ?_
  simp only [go_sem, ↓reduceIte, reduceCtorEq, Nat.reduceAdd, Nat.reduceMul, Nat.reduceEqDiff, Nat.reduceSub, Nat.reduceLT, Nat.reduceLeDiff, Nat.reduceAnd, Nat.reduceShiftRight, Nat.reduceBEq, Nat.reduceBNe, Nat.reduceBneDiff, Nat.reduceBeqDiff, Int.reduceToNat, Int.reduceLE, Int.reduceLT, Int.reduceEq, hp]
  unfold pathB
  refine ite_intro (fun h1 => ite_intro (fun h2 => ?_) fun h2 => ?_) fun h1 => ?_
  · rw [h1, decide_eq_true h2]; rfl
  · rw [decide_eq_false h2, Bool.and_false]; rfl
  · rw [show placeOk n i = false by simpa using h1]; rfl
theorem ok_impl_pathOk : MPathB.ok Tryz.prog 29 := FM.f4_ok fun n i l p _ => f_pathOk n i l p

/-- The two digests of each node on the way up, and the digest above. -/
def stepP (b : Bool) (now d : Digest) : Digest × Digest := if b then (now, d) else (d, now)
def foldP (bs : List Bool) (ds : List Digest) (d0 : Digest) : Nat → List (Digest × Digest) × Digest
  | 0 => ([], d0)
  | k + 1 => ((foldP bs ds d0 k).1 ++ [stepP (bs.getD k true) (foldP bs ds d0 k).2 (ds.getD k (0, 0, 0, 0))], pairH (stepP (bs.getD k true) (foldP bs ds d0 k).2 (ds.getD k (0, 0, 0, 0))).1 (stepP (bs.getD k true) (foldP bs ds d0 k).2 (ds.getD k (0, 0, 0, 0))).2)
theorem foldP_len (bs : List Bool) (ds : List Digest) (d0 : Digest) : ∀ k, (foldP bs ds d0 k).1.length = k
  | 0 => rfl
  | k + 1 => by rw [foldP, List.length_append, foldP_len bs ds d0 k]; rfl
abbrev cPairD : Cd (Digest × Digest) := cPair cDigest cDigest
attribute [go_sem] cPairD

def H_impl_pathPairs : Hint := { fs := [(58, MWay), (59, MHalves), (68, MLeafH), (69, MPairH)], kp := [(0, [0, 1, 2, 3]), (1, [0, 1, 2, 3]), (2, [1, 2, 3, 9]), (3, [1, 3, 9, 10]), (4, [1, 3, 9, 10, 11]), (5, [1, 9, 10, 11, 22, 23, 24]), (6, [1, 9, 10, 11, 22, 23, 24]), (7, [1, 9, 10, 11, 12, 13, 22, 23, 24]), (8, [1, 9, 10, 11, 13, 14, 22, 23, 24]), (9, [1, 9, 10, 11, 13, 14, 16, 22, 23, 24]), (10, [1, 9, 10, 11, 13, 16, 22, 23, 24]), (11, [1, 9, 10, 11, 16, 22, 23, 24]), (12, [1, 9, 10, 11, 16, 22, 23, 24]), (13, [1, 9, 10, 11, 22, 23, 24]), (14, [11])], an := [], nl := [(4, [(11, 8)])] }
attribute [go_sem] H_impl_pathPairs
theorem ok_H_impl_pathPairs : H_impl_pathPairs.ok Tryz.prog := AllOk.okR (.cons ok_impl_way (.cons ok_impl_node_halves (.cons ok_impl_HashLeaf (.cons ok_impl_HashPair .nil)))) .nil mix
theorem f_pathPairs (n i : Nat) (leaf : ByteArray) (path : List Digest) (h : 1 ≤ n ∧ n ≤ 256 ∧ i < n ∧ leaf.size ≤ 40 ∧ path.length = (dirsM n i).length) : VFun Tryz.prog 30 [(eInt .i64).enc n, (eInt .i64).enc i, eStr.enc leaf, (eList cDigest).enc path] [] ((eList cPairD).enc (foldP (dirsM n i).reverse path (leafH leaf) path.length).1) [] := by
  obtain ⟨h1, h2, h3, h4, h5⟩ := h
  have hway := wayM_at n 0 n i rfl h2 (Nat.zero_le _)
  simp only [Nat.sub_zero, Nat.zero_add] at hway
  obtain ⟨hl1, hat⟩ := hway
  have hdl := dirsM_len n i
  have hfl := foldP_len (dirsM n i).reverse path (leafH leaf)
  refine VFun_pure (n := 62) (rs := [.tmp 8]) Tryz.func30 rfl rfl rfl rfl H_impl_pathPairs ok_H_impl_pathPairs _ _ (Nat.le_of_ble_eq_true rfl) (by kernel_rfl) ?_
  simp only [go_sem, ↓reduceIte, reduceCtorEq, Nat.reduceAdd, Nat.reduceMul, Nat.reduceEqDiff, Nat.reduceSub, Nat.reduceLT, Nat.reduceLeDiff, Nat.reduceAnd, Nat.reduceShiftRight, Nat.reduceBEq, Nat.reduceBNe, Nat.reduceBneDiff, Nat.reduceBeqDiff, Int.reduceToNat, Int.reduceLE, Int.reduceLT, Int.reduceEq]
  refine ⟨⟨by omega, by omega⟩, by omega, ?_⟩
  have hF0 : foldP (dirsM n i).reverse path (leafH leaf) 0 = ([], leafH leaf) := rfl
  have hFs : ∀ k, foldP (dirsM n i).reverse path (leafH leaf) (k + 1) = ((foldP (dirsM n i).reverse path (leafH leaf) k).1 ++ [stepP ((dirsM n i).reverse.getD k true) (foldP (dirsM n i).reverse path (leafH leaf) k).2 (path.getD k (0, 0, 0, 0))], pairH (stepP ((dirsM n i).reverse.getD k true) (foldP (dirsM n i).reverse path (leafH leaf) k).2 (path.getD k (0, 0, 0, 0))).1 (stepP ((dirsM n i).reverse.getD k true) (foldP (dirsM n i).reverse path (leafH leaf) k).2 (path.getD k (0, 0, 0, 0))).2) := fun k => rfl
  obtain ⟨F, hF⟩ : ∃ F, F = foldP (dirsM n i).reverse path (leafH leaf) := ⟨_, rfl⟩
  rw [← hF] at hF0 hfl ⊢
  simp only [← hF] at hFs
  refine LoopV.go (H := H_impl_pathPairs) ok_H_impl_pathPairs (by kernel_rfl) (fun k : Nat => ⟨[(1, sc (.int .i64 i)), (9, .x (.o (.c (.s ((wayM 0 n i).map cNode.enc))))), (10, .x (.o (.p (1, 100) 0 0 1))), (11, .x (.o (.h (1, 101) 0 (F k).1.length (F k).1.length))), (22, .x (.o (.c (.s (path.map cDigest.enc))))), (23, sc (.int .i64 path.length)), (24, sc (.int .i64 k))], [((1, 100), .bx [[.c (.v (.int .u64 (F k).2.1.toNat)), .c (.v (.int .u64 (F k).2.2.1.toNat)), .c (.v (.int .u64 (F k).2.2.2.1.toNat)), .c (.v (.int .u64 (F k).2.2.2.2.toNat))]]), ((1, 101), .row 8 ((F k).1.map cPairD.enc))], 2⟩) (fun k => path.length - k) (fun k => k ≤ path.length) ?_ 0 (Nat.zero_le _) (by rw [hF0]; rfl)
  intro k hk
  have hfk := hfl k
  by_cases hlt : k < path.length
  · have c1 : ((k : Int) < (path.length : Int)) = True := eq_true (by omega)
    have w1 : IntKind.i64.wrap ((k : Int) + 1) = ((k + 1 : Nat) : Int) := by rw [wrap64] <;> omega
    have w2 : IntKind.i64.wrap (((wayM 0 n i).length : Int) - 1) = (((wayM 0 n i).length - 1 : Nat) : Int) := by rw [wrap64] <;> omega
    have w3 : IntKind.i64.wrap ((((wayM 0 n i).length - 1 : Nat) : Int) - (k : Int)) = (((wayM 0 n i).length - 1 - k : Nat) : Int) := by rw [wrap64] <;> omega
    obtain ⟨d, hd⟩ : ∃ r, path[k]? = some r := ⟨_, List.getElem?_eq_getElem hlt⟩
    obtain ⟨⟨xl, xh⟩, hx⟩ : ∃ r, (wayM 0 n i)[(wayM 0 n i).length - 1 - k]? = some r := ⟨_, List.getElem?_eq_getElem (by omega)⟩
    obtain ⟨⟨b1, b2, b3⟩, b4⟩ := hat _ _ hx
    dsimp only at b1 b2 b3 b4
    have hrev : (dirsM n i).reverse.getD k true = decide ((i : Int) < xl + splitM (xh - xl)) := by
      rw [List.getD_eq_getElem?_getD, List.getElem?_reverse (by omega), ← hl1, b4]; rfl
    have hpd : path.getD k (0, 0, 0, 0) = d := by rw [List.getD_eq_getElem?_getD, hd]; rfl
    have hs := hFs k
    rw [hrev, hpd] at hs
    have hh : halvesM (xl, xh) = ((xl, xl + splitM (xh - xl)), (xl + splitM (xh - xl), xh)) := rfl
    have hlt3 : (wayM 0 n i).length - 1 - k < (wayM 0 n i).length := by omega
    by_cases hb : (i : Int) < xl + splitM (xh - xl)
    · rw [decide_eq_true hb] at hs
      simp only [go_sem, ↓reduceIte, reduceCtorEq, Nat.reduceAdd, Nat.reduceMul, Nat.reduceEqDiff, Nat.reduceSub, Nat.reduceLT, Nat.reduceLeDiff, Nat.reduceAnd, Nat.reduceShiftRight, Nat.reduceBEq, Nat.reduceBNe, Nat.reduceBneDiff, Nat.reduceBeqDiff, Int.reduceToNat, Int.reduceLE, Int.reduceLT, Int.reduceEq, c1, w1, w2, w3, hd, hx, hh, hb, eq_true hlt, eq_true hlt3]
      have e1 : (F (k + 1)).1 = (F k).1 ++ [((F k).2, d)] := by rw [hs]; rfl
      have e2 : (F (k + 1)).2 = pairH (F k).2 d := by rw [hs]; rfl
      exact ⟨⟨by omega, by omega, by omega⟩, ⟨by omega, by omega⟩, by omega, by omega, k + 1, hlt, by omega, by rw [e1, e2, List.length_append, List.map_append]; rfl⟩
    · rw [decide_eq_false hb] at hs
      simp only [go_sem, ↓reduceIte, reduceCtorEq, Nat.reduceAdd, Nat.reduceMul, Nat.reduceEqDiff, Nat.reduceSub, Nat.reduceLT, Nat.reduceLeDiff, Nat.reduceAnd, Nat.reduceShiftRight, Nat.reduceBEq, Nat.reduceBNe, Nat.reduceBneDiff, Nat.reduceBeqDiff, Int.reduceToNat, Int.reduceLE, Int.reduceLT, Int.reduceEq, c1, w1, w2, w3, hd, hx, hh, hb, eq_true hlt, eq_true hlt3]
      have e1 : (F (k + 1)).1 = (F k).1 ++ [(d, (F k).2)] := by rw [hs]; rfl
      have e2 : (F (k + 1)).2 = pairH d (F k).2 := by rw [hs]; rfl
      exact ⟨⟨by omega, by omega, by omega⟩, ⟨by omega, by omega⟩, by omega, by omega, k + 1, hlt, by omega, by rw [e1, e2, List.length_append, List.map_append]; rfl⟩
  · have c1 : ((k : Int) < (path.length : Int)) = False := eq_false (by omega)
    obtain rfl : k = path.length := by omega
    simp only [go_sem, ↓reduceIte, reduceCtorEq, Nat.reduceAdd, Nat.reduceMul, Nat.reduceEqDiff, Nat.reduceSub, Nat.reduceLT, Nat.reduceLeDiff, Nat.reduceAnd, Nat.reduceShiftRight, Nat.reduceBEq, Nat.reduceBNe, Nat.reduceBneDiff, Nat.reduceBeqDiff, Int.reduceToNat, Int.reduceLE, Int.reduceLT, Int.reduceEq, c1]
theorem pathB_iff {n i : Int} {l : ByteArray} {p : List Digest} (h : pathB n i l p = true) : (1 ≤ n ∧ n ≤ 256) ∧ (0 ≤ i ∧ i ≤ n - 1) ∧ l.size ≤ 40 ∧ p.length = (dirsM n.toNat i.toNat).length := by
  unfold pathB at h
  simp only [Bool.and_eq_true, decide_eq_true_eq] at h
  obtain ⟨⟨h1, h2⟩, h3⟩ := h
  have := placeOk_iff h1
  rw [plenM, if_pos h1] at h3
  exact ⟨this.1, this.2, by omega, by omega⟩
abbrev MPairs : FM := .f4 (eInt .i64) (eInt .i64) eStr (eList cDigest) (eList cPairD).enc (fun n i l p => (foldP (dirsM n.toNat i.toNat).reverse p (leafH l) p.length).1) (fun n i l p => pathB n i l p = true)
attribute [go_sem] MPairs
theorem ok_impl_pathPairs : MPairs.ok Tryz.prog 30 := FM.f4_ok fun n i l p h => by
  obtain ⟨h1, h2, h3, h4⟩ := pathB_iff h
  obtain ⟨n, rfl⟩ := Int.eq_ofNat_of_zero_le (show 0 ≤ n by omega)
  obtain ⟨i, rfl⟩ := Int.eq_ofNat_of_zero_le h2.1
  exact f_pathPairs n i l p ⟨by omega, by omega, by omega, h3, h4⟩

def H_impl_copied_string : Hint := { fs := [], kp := [(0, [0]), (1, [0]), (2, []), (3, [0]), (4, [0, 3]), (5, [3])], an := [], own := true, ow := [(0, 0, 1)] }
attribute [go_sem] H_impl_copied_string
theorem ok_H_impl_copied_string : H_impl_copied_string.ok Tryz.prog := AllOk.okR .nil .nil mix
theorem o_copied_string (xs) (h : xs.length ≤ 1000000) : VFun Tryz.prog 32 [(eList cStr).enc xs] [] (oL 0 xs) [some (oR cStr xs)] := by
  refine VFun_own (rin := []) (n := 14) (rs := [.tmp 2]) Tryz.func32 rfl rfl rfl rfl H_impl_copied_string ok_H_impl_copied_string (Nat.le_of_ble_eq_true rfl) (by kernel_rfl) ?_
  simp only [go_sem, ↓reduceIte, reduceCtorEq, Nat.reduceAdd, Nat.reduceMul, Nat.reduceEqDiff, Nat.reduceSub, Nat.reduceLT, Nat.reduceLeDiff, Nat.reduceAnd, Nat.reduceShiftRight, Nat.reduceBEq, Nat.reduceBNe, Nat.reduceBneDiff, Nat.reduceBeqDiff, Int.reduceToNat, Int.reduceLE, Int.reduceLT, Int.reduceEq]
  refine ite_intro (fun h1 => ?_) fun h1 => ?_
  · have : xs = [] := by simpa using h1
    rw [this]; exact ⟨rfl, rfl⟩
  · (repeat' apply And.intro) <;> first | omega | exact map_len_all cStr rfl xs | (simp; done) | rfl
abbrev OCopied_string : FM := .g1 (eList cStr) (fun xs => (oL 0 xs, [some (oR cStr xs)])) (fun xs => xs.length ≤ 1000000)
attribute [go_sem] OCopied_string
theorem ok_impl_copied_string : OCopied_string.ok Tryz.prog 32 := FM.g1_ok fun xs h => o_copied_string xs h

/-- The texts from the root down. -/
def textsM (ps : List (Digest × Digest)) : List ByteArray := ps.reverse.map fun x => pairT x.1 x.2
def rowM (n i : Int) (l : ByteArray) (p : List Digest) : List ByteArray × Bool := if pathB n i l p then (textsM (foldP (dirsM n.toNat i.toNat).reverse p (leafH l) p.length).1 ++ [leafT l], true) else ([], false)
abbrev eRow := eT2 (eList cStr) eBool (one_x _ _) (one_x _ _)
attribute [go_sem] eRow
abbrev MRow : FM := .f4 (eInt .i64) (eInt .i64) eStr (eList cDigest) eRow.enc rowM (fun _ _ _ _ => True)
attribute [go_sem] MRow

def H_impl_ClashRow : Hint := { fs := [(29, MPathB), (30, MPairs), (31, MPairT), (32, OCopied_string), (33, MLeafT)], kp := [(0, [0, 1, 2, 3]), (1, [0, 1, 2, 3]), (2, []), (3, [0, 1, 2, 3]), (4, [2, 10]), (5, [2, 10, 11]), (6, [2, 10, 11, 12]), (8, [2, 10, 11, 12]), (7, [2, 10, 11, 12]), (9, [2, 11])], an := [(8, [0, 0, 0, 6, 14, 30, 0, 0, 192, 448, 960, 2046, 4094, 8191, 16383])], nl := [(5, [(11, 1)])] }
attribute [go_sem] H_impl_ClashRow
theorem ok_H_impl_ClashRow : H_impl_ClashRow.ok Tryz.prog := AllOk.okR (.cons ok_impl_pathOk (.cons ok_impl_pathPairs (.cons ok_impl_pairText (.cons ok_impl_copied_string (.cons ok_impl_leafText .nil))))) .nil mix
theorem f_impl_ClashRow (n i : Int) (l : ByteArray) (p : List Digest) : VFun Tryz.prog 8 [(eInt .i64).enc n, (eInt .i64).enc i, eStr.enc l, (eList cDigest).enc p] [] (eRow.enc (rowM n i l p)) [] := by
  refine VFun_pure (n := 51) (rs := [.tmp 8, .tmp 9]) Tryz.func8 rfl rfl rfl rfl H_impl_ClashRow ok_H_impl_ClashRow _ _ (Nat.le_of_ble_eq_true rfl) (by kernel_rfl) ?_
  simp only [go_sem, ↓reduceIte, reduceCtorEq, Nat.reduceAdd, Nat.reduceMul, Nat.reduceEqDiff, Nat.reduceSub, Nat.reduceLT, Nat.reduceLeDiff, Nat.reduceAnd, Nat.reduceShiftRight, Nat.reduceBEq, Nat.reduceBNe, Nat.reduceBneDiff, Nat.reduceBeqDiff, Int.reduceToNat, Int.reduceLE, Int.reduceLT, Int.reduceEq]
  refine ite_intro (fun h => ?_) fun h => ?_
  · unfold rowM; rw [if_neg (by simp [h])]
  have hp : pathB n i l p = true := by simpa using h
  obtain ⟨h1, h2, h3, h4⟩ := pathB_iff hp
  have hdl := dirsM_len n.toNat i.toNat
  have hfl := foldP_len (dirsM n.toNat i.toNat).reverse p (leafH l) p.length
  have hr : rowM n i l p = (textsM (foldP (dirsM n.toNat i.toNat).reverse p (leafH l) p.length).1 ++ [leafT l], true) := if_pos hp
  rw [hr]
  refine ⟨hp, ?_⟩
  generalize (foldP (dirsM n.toNat i.toNat).reverse p (leafH l) p.length).1 = P at hfl ⊢
  have htl : (textsM P).length = P.length := by simp [textsM]
  have w0 : IntKind.i64.wrap ((P.length : Int) - 1) = (P.length : Int) - 1 := wrap64 (by omega) (by omega)
  rw [w0]
  refine LoopV.go (H := H_impl_ClashRow) ok_H_impl_ClashRow (by kernel_rfl) (fun j : Nat => ⟨[(2, sc (.string l)), (10, .x (.o (.c (.s (P.map cPairD.enc))))), (11, .x (.o (.h (1, 100) 0 ((textsM P).take j).length ((textsM P).take j).length))), (12, sc (.int .i64 ((P.length : Int) - 1 - j)))], [((1, 100), .row 1 (((textsM P).take j).map cStr.enc))], 2⟩) (fun j => P.length - j) (fun j => j ≤ P.length) ?_ 0 (Nat.zero_le _) (by simp [sc])
  intro j hj
  have htj : ((textsM P).take j).length = j := by rw [List.length_take]; omega
  by_cases hlt : j < P.length
  · obtain ⟨⟨a, b⟩, hx⟩ : ∃ r, P[P.length - 1 - j]? = some r := ⟨_, List.getElem?_eq_getElem (by omega)⟩
    have ht : (textsM P).take (j + 1) = (textsM P).take j ++ [pairT a b] := by
      have : (textsM P)[j]? = some (pairT a b) := by
        rw [textsM, List.getElem?_map, List.getElem?_reverse (by omega), hx]; rfl
      rw [List.take_add_one, this]; rfl
    have e1 : (P.length : Int) - 1 - j = ((P.length - 1 - j : Nat) : Int) := by omega
    have e2 : IntKind.i64.wrap (((P.length - 1 - j : Nat) : Int) - 1) = (P.length : Int) - 1 - ((j + 1 : Nat) : Int) := by rw [wrap64] <;> omega
    have c1 : (0 ≤ ((P.length - 1 - j : Nat) : Int)) = True := eq_true (by omega)
    have c2 : (P.length - 1 - j < P.length) = True := eq_true (by omega)
    rw [e1]
    simp only [go_sem, ↓reduceIte, reduceCtorEq, Nat.reduceAdd, Nat.reduceMul, Nat.reduceEqDiff, Nat.reduceSub, Nat.reduceLT, Nat.reduceLeDiff, Nat.reduceAnd, Nat.reduceShiftRight, Nat.reduceBEq, Nat.reduceBNe, Nat.reduceBneDiff, Nat.reduceBeqDiff, Int.reduceToNat, Int.reduceLE, Int.reduceLT, Int.reduceEq, c1, c2, e2, hx]
    exact ⟨by omega, by omega, ⟨by omega, by omega⟩, j + 1, hlt, by omega, by rw [ht, List.length_append, List.map_append]; rfl⟩
  · have c1 : (0 ≤ (P.length : Int) - 1 - j) = False := eq_false (by omega)
    obtain rfl : j = P.length := by omega
    have htt : (textsM P).take P.length = textsM P := List.take_of_length_le (by omega)
    simp only [go_sem, ↓reduceIte, reduceCtorEq, Nat.reduceAdd, Nat.reduceMul, Nat.reduceEqDiff, Nat.reduceSub, Nat.reduceLT, Nat.reduceLeDiff, Nat.reduceAnd, Nat.reduceShiftRight, Nat.reduceBEq, Nat.reduceBNe, Nat.reduceBneDiff, Nat.reduceBeqDiff, Int.reduceToNat, Int.reduceLE, Int.reduceLT, Int.reduceEq, c1, htt]
    exact ⟨by omega, ⟨by omega, by omega⟩, by omega⟩
theorem ok_impl_ClashRow : MRow.ok Tryz.prog 8 := FM.f4_ok fun n i l p _ => f_impl_ClashRow n i l p

theorem foldP_congr {bs bs' : List Bool} {ds ds' : List Digest} {d0 : Digest} : ∀ {m : Nat}, (∀ k, k < m → bs.getD k true = bs'.getD k true ∧ ds.getD k (0, 0, 0, 0) = ds'.getD k (0, 0, 0, 0)) → foldP bs ds d0 m = foldP bs' ds' d0 m
  | 0, _ => rfl
  | m + 1, h => by
    have ih := foldP_congr (bs := bs) (bs' := bs') (ds := ds) (ds' := ds') (d0 := d0) (m := m) fun k hk => h k (by omega)
    obtain ⟨h1, h2⟩ := h m (by omega)
    rw [foldP, foldP, ih, h1, h2]
/-- The way up, seen from above. -/
theorem foldP_top {b : Bool} {bs : List Bool} {rest : List Digest} {last d0 : Digest} (h : rest.length = bs.length) : (foldP (b :: bs).reverse (rest ++ [last]) d0 (rest.length + 1)).2 = pairH (stepP b (foldP bs.reverse rest d0 rest.length).2 last).1 (stepP b (foldP bs.reverse rest d0 rest.length).2 last).2 := by
  have hc : foldP (b :: bs).reverse (rest ++ [last]) d0 rest.length = foldP bs.reverse rest d0 rest.length := foldP_congr fun k hk => by
    rw [List.reverse_cons]
    constructor
    · rw [List.getD_eq_getElem?_getD, List.getD_eq_getElem?_getD, List.getElem?_append_left (by rw [List.length_reverse]; omega)]
    · rw [List.getD_eq_getElem?_getD, List.getD_eq_getElem?_getD, List.getElem?_append_left hk]
  have e1 : (b :: bs).reverse.getD rest.length true = b := by
    rw [List.reverse_cons, List.getD_eq_getElem?_getD, List.getElem?_append_right (by rw [List.length_reverse]; omega), List.length_reverse, h, Nat.sub_self]; rfl
  have e2 : (rest ++ [last]).getD rest.length (0, 0, 0, 0) = last := by
    rw [List.getD_eq_getElem?_getD, List.getElem?_append_right (Nat.le_refl _), Nat.sub_self]; rfl
  rw [foldP, hc, e1, e2]

abbrev MUpN (N : Nat) : FM := .f4 (eInt .i64) (eInt .i64) (CE.st cDigest) (eList cDigest) (CE.st cDigest).enc (fun n i d p => (foldP (dirsM n.toNat i.toNat).reverse p d p.length).2) (fun n i d p => n.toNat < N ∧ (1 ≤ n ∧ n ≤ 256) ∧ (0 ≤ i ∧ i < n) ∧ p.length = (dirsM n.toNat i.toNat).length)
attribute [go_sem] MUpN
def H_spec_l3Up (N : Nat) : Hint := { fs := [(45, MSplit), (73, (MUpN N)), (90, MPairH)], kp := [(0, [0, 1, 2, 3]), (1, [0, 1, 3, 6, 8]), (2, [6, 8]), (3, [0, 1, 3, 6, 8]), (4, [0, 1, 3, 6, 8, 9]), (5, [0, 1, 3, 6, 8, 9, 10]), (6, [0, 1, 6, 8, 9, 10, 11]), (7, [1, 6, 8, 9, 10, 11]), (8, [0, 1, 6, 8, 9, 10, 11])], an := [(7, [0, 0, 0, 0, 15, 0, 63, 127]), (8, [0, 0, 0, 6, 0, 0, 48, 0, 0, 510, 1023, 2047])] }
attribute [go_sem] H_spec_l3Up
theorem ok_H_spec_l3Up (N : Nat) (ih : (MUpN N).ok Tryz.prog 73) : (H_spec_l3Up N).ok Tryz.prog := AllOk.okR (.cons ok_spec_TreeSplit (.cons ih (.cons ok_spec_HashPair .nil))) .nil mix
theorem f_l3Up : ∀ (N : Nat) (n i : Int) (d : Digest) (p : List Digest), (n.toNat < N ∧ (1 ≤ n ∧ n ≤ 256) ∧ (0 ≤ i ∧ i < n) ∧ p.length = (dirsM n.toNat i.toNat).length) → VFun Tryz.prog 73 [(eInt .i64).enc n, (eInt .i64).enc i, (CE.st cDigest).enc d, (eList cDigest).enc p] [] ((CE.st cDigest).enc (foldP (dirsM n.toNat i.toNat).reverse p d p.length).2) []
  | 0, n, i, d, p, h => absurd h.1 (by omega)
  | N + 1, n, i, d, p, h => by
    have ih : (MUpN N).ok Tryz.prog 73 := FM.f4_ok fun n i d p h => f_l3Up N n i d p h
    obtain ⟨h0, h1, h2, h3⟩ := h
    obtain ⟨n, rfl⟩ := Int.eq_ofNat_of_zero_le (show 0 ≤ n by omega)
    obtain ⟨i, rfl⟩ := Int.eq_ofNat_of_zero_le h2.1
    simp only [Int.toNat_natCast] at h0 h3 ⊢
    refine VFun_pure (n := 49) (rs := [.cell 8 25]) Tryz.func73 rfl rfl rfl rfl (H_spec_l3Up N) (ok_H_spec_l3Up N ih) _ _ (Nat.le_of_ble_eq_true rfl) (by kernel_rfl) ?_
    by_cases hm : 2 ≤ n
    · have s1 := splitN_lt hm
      have s2 := splitN_pos n
      have s3 := splitM_in hm (by omega)
      have c1 : ((n : Int) < 2) = False := eq_false (by omega)
      by_cases hj : i < splitN n
      · have c2 : ((i : Int) < ((splitN n : Nat) : Int)) = True := eq_true (by omega)
        rw [dirsM_l hm hj] at h3 ⊢
        rw [List.length_cons] at h3
        have hdl := dirsM_len (splitN n) (i)
        obtain ⟨rest, last, rfl⟩ : ∃ rest last, p = rest ++ [last] := ⟨p.dropLast, p.getLast (by intro e; simp [e] at h3), (List.dropLast_concat_getLast _).symm⟩
        have hpl : (rest ++ [last]).length = rest.length + 1 := by simp
        rw [hpl] at h3
        have hrl : rest.length = (dirsM (splitN n) (i)).length := by omega
        have htop := foldP_top (b := true) (d0 := d) (last := last) hrl
        have w1 : IntKind.i64.wrap (((rest.length + 1 : Nat) : Int) - 1) = (rest.length : Int) := by rw [wrap64] <;> omega
        have hx : (rest ++ [last])[rest.length]? = some last := by simp
        have hdr : (rest ++ [last]).take rest.length = rest := by simp
        generalize rest ++ [last] = q at hpl hx hdr htop ⊢
        rw [hpl, htop]
        simp only [go_sem, ↓reduceIte, reduceCtorEq, Nat.reduceAdd, Nat.reduceMul, Nat.reduceEqDiff, Nat.reduceSub, Nat.reduceLT, Nat.reduceLeDiff, Nat.reduceAnd, Nat.reduceShiftRight, Nat.reduceBEq, Nat.reduceBNe, Nat.reduceBneDiff, Nat.reduceBeqDiff, Int.reduceToNat, Int.reduceLE, Int.reduceLT, Int.reduceEq, c1, s3, c2, hpl, w1, hx, hdr]
        exact ⟨by omega, ⟨by omega, ⟨by omega, by omega⟩, hrl⟩, rfl⟩
      · have c2 : ((i : Int) < ((splitN n : Nat) : Int)) = False := eq_false (by omega)
        have w2 : IntKind.i64.wrap ((n : Int) - ((splitN n : Nat) : Int)) = ((n - splitN n : Nat) : Int) := by rw [wrap64] <;> omega
        have w3 : IntKind.i64.wrap ((i : Int) - ((splitN n : Nat) : Int)) = ((i - splitN n : Nat) : Int) := by rw [wrap64] <;> omega
        rw [dirsM_r hm hj] at h3 ⊢
        rw [List.length_cons] at h3
        have hdl := dirsM_len (n - splitN n) (i - splitN n)
        obtain ⟨rest, last, rfl⟩ : ∃ rest last, p = rest ++ [last] := ⟨p.dropLast, p.getLast (by intro e; simp [e] at h3), (List.dropLast_concat_getLast _).symm⟩
        have hpl : (rest ++ [last]).length = rest.length + 1 := by simp
        rw [hpl] at h3
        have hrl : rest.length = (dirsM (n - splitN n) (i - splitN n)).length := by omega
        have htop := foldP_top (b := false) (d0 := d) (last := last) hrl
        have w1 : IntKind.i64.wrap (((rest.length + 1 : Nat) : Int) - 1) = (rest.length : Int) := by rw [wrap64] <;> omega
        have hx : (rest ++ [last])[rest.length]? = some last := by simp
        have hdr : (rest ++ [last]).take rest.length = rest := by simp
        generalize rest ++ [last] = q at hpl hx hdr htop ⊢
        rw [hpl, htop]
        simp only [go_sem, ↓reduceIte, reduceCtorEq, Nat.reduceAdd, Nat.reduceMul, Nat.reduceEqDiff, Nat.reduceSub, Nat.reduceLT, Nat.reduceLeDiff, Nat.reduceAnd, Nat.reduceShiftRight, Nat.reduceBEq, Nat.reduceBNe, Nat.reduceBneDiff, Nat.reduceBeqDiff, Int.reduceToNat, Int.reduceLE, Int.reduceLT, Int.reduceEq, c1, s3, c2, hpl, w1, w2, w3, hx, hdr]
        exact ⟨by omega, ⟨by omega, ⟨by omega, by omega⟩, by omega, hrl⟩, rfl⟩
    · have c1 : ((n : Int) < 2) = True := eq_true (by omega)
      rw [dirsM_0 hm, List.length_nil] at h3
      simp only [go_sem, ↓reduceIte, reduceCtorEq, Nat.reduceAdd, Nat.reduceMul, Nat.reduceEqDiff, Nat.reduceSub, Nat.reduceLT, Nat.reduceLeDiff, Nat.reduceAnd, Nat.reduceShiftRight, Nat.reduceBEq, Nat.reduceBNe, Nat.reduceBneDiff, Nat.reduceBeqDiff, Int.reduceToNat, Int.reduceLE, Int.reduceLT, Int.reduceEq, c1, h3]
      rfl
abbrev MUp : FM := .f4 (eInt .i64) (eInt .i64) (CE.st cDigest) (eList cDigest) (CE.st cDigest).enc (fun n i d p => (foldP (dirsM n.toNat i.toNat).reverse p d p.length).2) (fun n i d p => (1 ≤ n ∧ n ≤ 256) ∧ (0 ≤ i ∧ i < n) ∧ p.length = (dirsM n.toNat i.toNat).length)
attribute [go_sem] MUp
theorem ok_spec_l3Up : MUp.ok Tryz.prog 73 := FM.f4_ok fun n i d p h => f_l3Up (n.toNat + 1) n i d p ⟨by omega, h⟩

def rootP (n i : Int) (l : ByteArray) (p : List Digest) : Digest × Bool := if pathB n i l p then ((foldP (dirsM n.toNat i.toNat).reverse p (leafH l) p.length).2, true) else ((0, 0, 0, 0), false)
abbrev eRoot := eT2 (CE.st cDigest) eBool (st_x _) (one_x _ _)
attribute [go_sem] eRoot
abbrev MRootP : FM := .f4 (eInt .i64) (eInt .i64) eStr (eList cDigest) eRoot.enc rootP (fun _ _ _ _ => True)
attribute [go_sem] MRootP
def H_spec_PathRoot : Hint := { fs := [(71, MPlace), (72, MPlen), (73, MUp), (74, MLeafH)], kp := [(0, [0, 1, 2, 3]), (1, [0, 1, 2, 3, 8]), (2, [8]), (3, [0, 1, 2, 3, 8])], an := [] }
attribute [go_sem] H_spec_PathRoot
theorem ok_H_spec_PathRoot : H_spec_PathRoot.ok Tryz.prog := AllOk.okR (.cons ok_spec_l3Place (.cons ok_spec_PathLen (.cons ok_spec_l3Up (.cons ok_spec_HashLeaf .nil)))) .nil mix
theorem f_spec_PathRoot (n i : Int) (l : ByteArray) (p : List Digest) : VFun Tryz.prog 34 [(eInt .i64).enc n, (eInt .i64).enc i, eStr.enc l, (eList cDigest).enc p] [] (eRoot.enc (rootP n i l p)) [] := by
  have hno : pathB n i l p = false → rootP n i l p = ((0, 0, 0, 0), false) := fun h => if_neg (by simp [h])
  refine VFun_pure (n := 34) (rs := [.cell 8 25, .tmp 9]) Tryz.func34 rfl rfl rfl rfl H_spec_PathRoot ok_H_spec_PathRoot _ _ (Nat.le_of_ble_eq_true rfl) (by kernel_rfl) ?_
  simp only [go_sem, ↓reduceIte, reduceCtorEq, Nat.reduceAdd, Nat.reduceMul, Nat.reduceEqDiff, Nat.reduceSub, Nat.reduceLT, Nat.reduceLeDiff, Nat.reduceAnd, Nat.reduceShiftRight, Nat.reduceBEq, Nat.reduceBNe, Nat.reduceBneDiff, Nat.reduceBeqDiff, Int.reduceToNat, Int.reduceLE, Int.reduceLT, Int.reduceEq]
  refine ite_intro (fun h1 => ite_intro (fun h2 => ite_intro (fun h3 => ?_) fun h3 => ?_) fun h2 => ?_) fun h1 => ?_
  · rw [hno (by unfold pathB; rw [decide_eq_false h3, Bool.and_false])]
  · have hp : pathB n i l p = true := by unfold pathB; rw [h1, decide_eq_true (by omega), decide_eq_true (Decidable.not_not.1 h3)]; rfl
    obtain ⟨q1, q2, q3, q4⟩ := pathB_iff hp
    exact ⟨by omega, ⟨q1, ⟨q2.1, by omega⟩, q4⟩, by unfold rootP; rw [if_pos hp]⟩
  · rw [hno (by unfold pathB; rw [decide_eq_false (by omega : ¬ (l.size : Int) ≤ 40), Bool.and_false]; rfl)]
  · rw [hno (by unfold pathB; rw [show placeOk n i = false by simpa using h1]; rfl)]
theorem ok_spec_PathRoot : MRootP.ok Tryz.prog 34 := FM.f4_ok fun n i l p _ => f_spec_PathRoot n i l p

end Go.Proofs.YtcgkhljolflenaaGreatW.V

