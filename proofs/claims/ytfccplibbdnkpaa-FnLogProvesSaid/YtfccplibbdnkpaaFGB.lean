/- Functions: the proofs of growths. No condition but each theorem's own. -/
import Derived.Test.YtfccplibbdnkpaaFQT
namespace Go.Proofs.YtfccplibbdnkpaaW.V
open Go Go.Proofs
set_option linter.unusedSimpArgs false
set_option linter.unusedVariables false
set_option maxRecDepth 8000
set_option maxHeartbeats 4000000

set_option synthInstance.maxSize 1000

/-- The old and the new nodes of a growth from m, within lo to hi. -/
def fallO (lo hi m : Nat) : List (Nat × Nat) :=
  if hi ≤ m then [(lo, hi)] else if h : m ≤ lo then [] else fallO lo (lo + splitN (hi - lo)) m ++ fallO (lo + splitN (hi - lo)) hi m
termination_by hi - lo
decreasing_by
  · have := splitN_lt (n := hi - lo) (by omega); omega
  · have := splitN_pos (hi - lo); omega
def fallF (lo hi m : Nat) : List (Nat × Nat) :=
  if hi ≤ m then [] else if h : m ≤ lo then [(lo, hi)] else fallF lo (lo + splitN (hi - lo)) m ++ fallF (lo + splitN (hi - lo)) hi m
termination_by hi - lo
decreasing_by
  · have := splitN_lt (n := hi - lo) (by omega); omega
  · have := splitN_pos (hi - lo); omega
theorem fallO_old {lo hi m : Nat} (h : hi ≤ m) : fallO lo hi m = [(lo, hi)] := by rw [fallO, if_pos h]
theorem fallO_new {lo hi m : Nat} (h : ¬ hi ≤ m) (h2 : m ≤ lo) : fallO lo hi m = [] := by rw [fallO, if_neg h, dif_pos h2]
theorem fallO_mid {lo hi m : Nat} (h : ¬ hi ≤ m) (h2 : ¬ m ≤ lo) : fallO lo hi m = fallO lo (lo + splitN (hi - lo)) m ++ fallO (lo + splitN (hi - lo)) hi m := by
  rw [fallO, if_neg h, dif_neg h2]
theorem fallF_old {lo hi m : Nat} (h : hi ≤ m) : fallF lo hi m = [] := by rw [fallF, if_pos h]
theorem fallF_new {lo hi m : Nat} (h : ¬ hi ≤ m) (h2 : m ≤ lo) : fallF lo hi m = [(lo, hi)] := by rw [fallF, if_neg h, dif_pos h2]
theorem fallF_mid {lo hi m : Nat} (h : ¬ hi ≤ m) (h2 : ¬ m ≤ lo) : fallF lo hi m = fallF lo (lo + splitN (hi - lo)) m ++ fallF (lo + splitN (hi - lo)) hi m := by
  rw [fallF, if_neg h, dif_neg h2]
theorem fall_in (lo hi m : Nat) (hlt : lo < hi) : (∀ x ∈ fallO lo hi m, lo ≤ x.1 ∧ x.1 < x.2 ∧ x.2 ≤ hi) ∧ (∀ x ∈ fallF lo hi m, lo ≤ x.1 ∧ x.1 < x.2 ∧ x.2 ≤ hi) ∧ (fallO lo hi m).length + (fallF lo hi m).length ≤ hi - lo := by
  induction hd : hi - lo using Nat.strongRecOn generalizing lo hi with
  | _ n ih =>
    subst hd
    by_cases h : hi ≤ m
    · rw [fallO_old h, fallF_old h]
      exact ⟨by simp; omega, by simp, by simp; omega⟩
    by_cases h2 : m ≤ lo
    · rw [fallO_new h h2, fallF_new h h2]
      exact ⟨by simp, by simp; omega, by simp; omega⟩
    rw [fallO_mid h h2, fallF_mid h h2]
    have k1 := splitN_lt (n := hi - lo) (by omega)
    have k2 := splitN_pos (hi - lo)
    obtain ⟨a1, a2, a3⟩ := ih _ (by omega) lo (lo + splitN (hi - lo)) (by omega) rfl
    obtain ⟨b1, b2, b3⟩ := ih _ (by omega) (lo + splitN (hi - lo)) hi (by omega) rfl
    refine ⟨fun x hx => ?_, fun x hx => ?_, by simp only [List.length_append]; omega⟩
    · rcases List.mem_append.1 hx with h | h
      · have := a1 x h; omega
      · have := b1 x h; omega
    · rcases List.mem_append.1 hx with h | h
      · have := a2 x h; omega
      · have := b2 x h; omega

/-- The greatest power of two that is at most a number. -/
def halfN (n : Nat) : Nat := 2 ^ Nat.log2 n
theorem halfN_pos (n : Nat) : 1 ≤ halfN n := Nat.one_le_two_pow
theorem halfN_le {n : Nat} (h : 1 ≤ n) : halfN n ≤ n := Nat.log2_self_le (by omega)
theorem halfN_eq {n k j : Nat} (hk : k = 2 ^ j) (h1 : k ≤ n) (h2 : n < 2 * k) : halfN n = k := by
  have h3 : Nat.log2 n = j := (Nat.log2_eq_iff (by have := Nat.one_le_two_pow (n := j); omega)).2 ⟨by omega, by rw [Nat.pow_succ]; omega⟩
  rw [halfN, h3, hk]
def peaksN (at_ m : Nat) : List (Nat × Nat) := if h : at_ < m then (at_, at_ + halfN (m - at_)) :: peaksN (at_ + halfN (m - at_)) m else []
termination_by m - at_
decreasing_by have := halfN_pos (m - at_); omega
theorem peaksN_end {a m : Nat} (h : m ≤ a) : peaksN a m = [] := by rw [peaksN, dif_neg (by omega)]
theorem peaksN_go {a m : Nat} (h : a < m) : peaksN a m = (a, a + halfN (m - a)) :: peaksN (a + halfN (m - a)) m := by rw [peaksN, dif_pos h]
theorem split_pow {n : Nat} (h : 2 ≤ n) : ∃ j, splitN n = 2 ^ j ∧ splitN n < n ∧ n ≤ 2 * splitN n := by
  refine ⟨_, rfl, splitN_lt h, ?_⟩
  have := Nat.lt_log2_self (n := n - 1)
  unfold splitN
  rw [Nat.pow_succ] at this
  omega
theorem fallO_peaks (lo hi m : Nat) (h1 : lo < m) (h2 : m < hi) : fallO lo hi m = peaksN lo m := by
  induction hd : hi - lo using Nat.strongRecOn generalizing lo hi with
  | _ n ih =>
    subst hd
    obtain ⟨j, hj, k1, k2⟩ := split_pow (n := hi - lo) (by omega)
    have k3 := splitN_pos (hi - lo)
    rw [fallO_mid (by omega) (by omega)]
    by_cases h3 : m < lo + splitN (hi - lo)
    · rw [ih _ (by omega) lo _ h1 h3 rfl, fallO_new (by omega) (by omega), List.append_nil]
    · have e : halfN (m - lo) = splitN (hi - lo) := halfN_eq hj (by omega) (by omega)
      rw [fallO_old (by omega), peaksN_go h1, e, List.singleton_append]
      by_cases h4 : m = lo + splitN (hi - lo)
      · rw [fallO_new (by omega) (by omega), peaksN_end (by omega)]
      · rw [ih _ (by omega) _ hi (by omega) h2 rfl]

/-- The root of a run of leaves; the proof of a growth. -/
def runM (l : List ByteArray) (x : Nat × Nat) : Digest := rootM ((l.drop x.1).take (x.2 - x.1))
def peaksD (l : List ByteArray) : List Digest := (peaksN 0 l.length).map (runM l)
def restD (l : List ByteArray) (lo hi m : Nat) : List Digest := (fallF lo hi m).map (runM l)
def growN (l : List ByteArray) (m : Nat) : List Digest := if m = 0 ∨ m = l.length then [] else (fallO 0 l.length m ++ fallF 0 l.length m).map (runM l)
def growOk (l : List ByteArray) (m : Int) : Bool := leavesOk l && decide (0 ≤ m ∧ m ≤ l.length)
def growM (l : List ByteArray) (m : Int) : List Digest × Bool := if growOk l m then (growN l m.toNat, true) else ([], false)
theorem growN_0 (l : List ByteArray) {m : Nat} (h : m = 0 ∨ m = l.length) : growN l m = [] := if_pos h
theorem growN_s (l : List ByteArray) {m : Nat} (h : ¬ (m = 0 ∨ m = l.length)) : growN l m = (fallO 0 l.length m ++ fallF 0 l.length m).map (runM l) := if_neg h
theorem growN_p (l : List ByteArray) {m : Nat} (h : 0 < m) (h2 : m < l.length) : growN l m = (peaksN 0 m).map (runM l) ++ (fallF 0 l.length m).map (runM l) := by
  rw [growN_s l (by omega), fallO_peaks 0 l.length m h h2, List.map_append]

def H_spec_l3Digests : Hint := { fs := [], kp := [(0, [0, 1]), (1, [0, 1]), (2, [0, 1, 5]), (3, [0, 1, 5, 6]), (5, [0, 1, 5, 6]), (4, [0, 1, 5, 6]), (6, [1, 5]), (7, [1, 5, 7]), (9, [1, 5, 7]), (8, [1, 5, 7]), (10, [5])], an := [], own := true }
attribute [go_sem] H_spec_l3Digests
theorem ok_H_spec_l3Digests : H_spec_l3Digests.ok Try.prog := AllOk.okR .nil .nil mix
theorem o_l3Digests (xs ys : List Digest) (hx : xs.length ≤ 100000) (hy : ys.length ≤ 100000) : VFun Try.prog 69 [(eList cDigest).enc xs, (eList cDigest).enc ys] [] (oL 0 (xs ++ ys)) [some (oR cDigest (xs ++ ys))] := by
  refine VFun_own (rin := []) (n := 36) (rs := [.tmp 4]) Try.func69 rfl rfl rfl rfl H_spec_l3Digests ok_H_spec_l3Digests (Nat.le_of_ble_eq_true rfl) (by kernel_rfl) ?_
  simp only [go_sem, ↓reduceIte, reduceCtorEq, Nat.reduceAdd, Nat.reduceMul, Nat.reduceEqDiff, Nat.reduceSub, Nat.reduceLT, Nat.reduceLeDiff, Nat.reduceAnd, Nat.reduceShiftRight, Nat.reduceBEq, Nat.reduceBNe, Nat.reduceBneDiff, Nat.reduceBeqDiff, Int.reduceToNat, Int.reduceLE, Int.reduceLT, Int.reduceEq]
  refine LoopV.go (H := H_spec_l3Digests) ok_H_spec_l3Digests (by kernel_rfl) (fun i : Nat => ⟨[(0, .x (.o (.c (.s (xs.map cDigest.enc))))), (1, .x (.o (.c (.s (ys.map cDigest.enc))))), (5, .x (.o (.h (1, 100) 0 (xs.take i).length (xs.take i).length))), (6, sc (.int .i64 i))], [((1, 100), .row 4 ((xs.take i).map cDigest.enc))], 2⟩) (fun i => xs.length - i) (fun i => i ≤ xs.length) ?_ 0 (Nat.zero_le _)
  intro i hi
  have ht : (xs.take i).length = i := by rw [List.length_take]; omega
  by_cases hlt : i < xs.length
  · obtain ⟨x, hx⟩ : ∃ r, xs[i]? = some r := ⟨_, List.getElem?_eq_getElem hlt⟩
    have hy : xs.take (i + 1) = xs.take i ++ [x] := by rw [List.take_add_one, hx]; rfl
    have w1 : IntKind.i64.wrap ((i : Int) + 1) = ((i + 1 : Nat) : Int) := by rw [wrap64] <;> omega
    have c1 : ((i : Int) < (xs.length : Int)) = True := eq_true (by omega)
    simp only [go_sem, ↓reduceIte, reduceCtorEq, Nat.reduceAdd, Nat.reduceMul, Nat.reduceEqDiff, Nat.reduceSub, Nat.reduceLT, Nat.reduceLeDiff, Nat.reduceAnd, Nat.reduceShiftRight, Nat.reduceBEq, Nat.reduceBNe, Nat.reduceBneDiff, Nat.reduceBeqDiff, Int.reduceToNat, Int.reduceLE, Int.reduceLT, Int.reduceEq, hx, w1, c1]
    exact ⟨⟨by omega, by omega⟩, i + 1, hlt, by omega, by rw [hy, List.length_append, List.map_append]; rfl⟩
  · have c1 : ((i : Int) < (xs.length : Int)) = False := eq_false (by omega)
    have htt : xs.take i = xs := List.take_of_length_le (by omega)
    simp only [go_sem, ↓reduceIte, reduceCtorEq, Nat.reduceAdd, Nat.reduceMul, Nat.reduceEqDiff, Nat.reduceSub, Nat.reduceLT, Nat.reduceLeDiff, Nat.reduceAnd, Nat.reduceShiftRight, Nat.reduceBEq, Nat.reduceBNe, Nat.reduceBneDiff, Nat.reduceBeqDiff, Int.reduceToNat, Int.reduceLE, Int.reduceLT, Int.reduceEq, c1, htt]
    refine LoopV.go (H := H_spec_l3Digests) ok_H_spec_l3Digests (by kernel_rfl) (fun j : Nat => ⟨[(1, .x (.o (.c (.s (ys.map cDigest.enc))))), (5, .x (.o (.h (1, 100) 0 (xs ++ ys.take j).length (xs ++ ys.take j).length))), (7, sc (.int .i64 j))], [((1, 100), .row 4 ((xs ++ ys.take j).map cDigest.enc))], 2⟩) (fun j => ys.length - j) (fun j => j ≤ ys.length) ?_ 0 (Nat.zero_le _) (by simp [sc])
    intro j hj
    have ht : (xs ++ ys.take j).length = xs.length + j := by rw [List.length_append, List.length_take]; omega
    by_cases hlt : j < ys.length
    · obtain ⟨x, hx⟩ : ∃ r, ys[j]? = some r := ⟨_, List.getElem?_eq_getElem hlt⟩
      have hy2 : xs ++ ys.take (j + 1) = xs ++ ys.take j ++ [x] := by rw [List.take_add_one, hx, List.append_assoc]; rfl
      have w1 : IntKind.i64.wrap ((j : Int) + 1) = ((j + 1 : Nat) : Int) := by rw [wrap64] <;> omega
      have c1 : ((j : Int) < (ys.length : Int)) = True := eq_true (by omega)
      generalize xs ++ ys.take j = zs at ht hy2 ⊢
      simp only [go_sem, ↓reduceIte, reduceCtorEq, Nat.reduceAdd, Nat.reduceMul, Nat.reduceEqDiff, Nat.reduceSub, Nat.reduceLT, Nat.reduceLeDiff, Nat.reduceAnd, Nat.reduceShiftRight, Nat.reduceBEq, Nat.reduceBNe, Nat.reduceBneDiff, Nat.reduceBeqDiff, Int.reduceToNat, Int.reduceLE, Int.reduceLT, Int.reduceEq, hx, w1, c1]
      exact ⟨⟨by omega, by omega⟩, j + 1, hlt, by omega, by rw [hy2, show xs.length + (ys.take (j + 1)).length = zs.length + 1 by rw [List.length_take]; omega, List.map_append]; rfl⟩
    · have c1 : ((j : Int) < (ys.length : Int)) = False := eq_false (by omega)
      have htt : xs ++ ys.take j = xs ++ ys := by rw [List.take_of_length_le (by omega)]
      rw [htt]
      simp only [go_sem, ↓reduceIte, reduceCtorEq, Nat.reduceAdd, Nat.reduceMul, Nat.reduceEqDiff, Nat.reduceSub, Nat.reduceLT, Nat.reduceLeDiff, Nat.reduceAnd, Nat.reduceShiftRight, Nat.reduceBEq, Nat.reduceBNe, Nat.reduceBneDiff, Nat.reduceBeqDiff, Int.reduceToNat, Int.reduceLE, Int.reduceLT, Int.reduceEq, c1]
abbrev ODigests : FM := .g2 (eList cDigest) (eList cDigest) (fun xs ys => (oL 0 (xs ++ ys), [some (oR cDigest (xs ++ ys))])) (fun xs ys => xs.length ≤ 100000 ∧ ys.length ≤ 100000)
attribute [go_sem] ODigests
theorem ok_spec_l3Digests : ODigests.ok Try.prog 69 := FM.g2_ok fun xs ys h => o_l3Digests xs ys h.1 h.2

/-- A node of a tree. -/
abbrev cNode : Cd (Int × Int) := cPair (cInt .i64) (cInt .i64)
attribute [go_sem] cNode
abbrev eHalves := eT2 (CE.st cNode) (CE.st cNode) (st_x _) (st_x _)
attribute [go_sem] eHalves
def halvesM (x : Int × Int) : (Int × Int) × (Int × Int) := ((x.1, x.1 + splitM (x.2 - x.1)), (x.1 + splitM (x.2 - x.1), x.2))
theorem splitM_bd (n : Int) : 0 ≤ splitM n ∧ (n ≤ 256 → splitM n ≤ 256) := by
  unfold splitM
  split
  · rename_i h
    have := splitN_lt (n := n.toNat) (by omega)
    omega
  · omega

def H_impl_node_halves : Hint := { fs := [(76, MSplit)], kp := [(0, [0]), (1, [1, 2, 3]), (2, [1, 2, 3, 4])], an := [(1, [0, 1, 0, 4, 0, 16, 60, 124, 255, 511]), (2, [0, 1, 0, 7, 0, 0, 32, 112, 15, 511])] }
attribute [go_sem] H_impl_node_halves
theorem ok_H_impl_node_halves : H_impl_node_halves.ok Try.prog := AllOk.okR (.cons ok_impl_TreeSplit .nil) .nil mix
theorem f_halves (x : Int × Int) (h : 0 ≤ x.1 ∧ x.1 ≤ x.2 ∧ x.2 ≤ 256) : VFun Try.prog 90 [(CE.st cNode).enc x] [] (eHalves.enc (halvesM x)) [] := by
  obtain ⟨lo, hi⟩ := x
  dsimp only at h
  have sb := splitM_bd (hi - lo)
  have w1 : IntKind.i64.wrap (hi - lo) = hi - lo := wrap64 (by omega) (by omega)
  have w2 : IntKind.i64.wrap (lo + splitM (hi - lo)) = lo + splitM (hi - lo) := wrap64 (by omega) (by omega)
  refine VFun_pure (n := 22) (rs := [.cell 2 88, .cell 3 88]) Try.func90 rfl rfl rfl rfl H_impl_node_halves ok_H_impl_node_halves _ _ (Nat.le_of_ble_eq_true rfl) (by kernel_rfl) ?_
  simp only [go_sem, ↓reduceIte, reduceCtorEq, Nat.reduceAdd, Nat.reduceMul, Nat.reduceEqDiff, Nat.reduceSub, Nat.reduceLT, Nat.reduceLeDiff, Nat.reduceAnd, Nat.reduceShiftRight, Nat.reduceBEq, Nat.reduceBNe, Nat.reduceBneDiff, Nat.reduceBeqDiff, Int.reduceToNat, Int.reduceLE, Int.reduceLT, Int.reduceEq, w1, w2]
  rfl
abbrev MHalves : FM := .f1 (CE.st cNode) eHalves.enc halvesM (fun x => 0 ≤ x.1 ∧ x.1 ≤ x.2 ∧ x.2 ≤ 256)
attribute [go_sem] MHalves
theorem ok_impl_node_halves : MHalves.ok Try.prog 90 := FM.f1_ok fun x h => f_halves x h

def H_spec_l2Half : Hint := { fs := [], kp := [(0, [0]), (1, [0]), (2, [0, 3]), (3, [0, 3]), (4, [3])], an := [] }
attribute [go_sem] H_spec_l2Half
theorem ok_H_spec_l2Half : H_spec_l2Half.ok Try.prog := AllOk.okR .nil .nil mix
theorem f_l2Half (m : Nat) (h : 1 ≤ m ∧ m ≤ 256) : VFun Try.prog 98 [(eInt .i64).enc m] [] ((eInt .i64).enc (halfN m : Nat)) [] := by
  refine VFun_pure (n := 11) (rs := [.tmp 2]) Try.func98 rfl rfl rfl rfl H_spec_l2Half ok_H_spec_l2Half _ _ (Nat.le_of_ble_eq_true rfl) (by kernel_rfl) ?_
  simp only [go_sem, ↓reduceIte, reduceCtorEq, Nat.reduceAdd, Nat.reduceMul, Nat.reduceEqDiff, Nat.reduceSub, Nat.reduceLT, Nat.reduceLeDiff, Nat.reduceAnd, Nat.reduceShiftRight, Nat.reduceBEq, Nat.reduceBNe, Nat.reduceBneDiff, Nat.reduceBeqDiff, Int.reduceToNat, Int.reduceLE, Int.reduceLT, Int.reduceEq]
  refine LoopV.go (H := H_spec_l2Half) ok_H_spec_l2Half (by kernel_rfl) (fun k : Nat => ⟨[(0, sc (.int .i64 m)), (3, sc (.int .i64 k))], [], 2⟩) (fun k => m - k) (fun k => (∃ j, k = 2 ^ j) ∧ 1 ≤ k ∧ k ≤ m) ?_ 1 ⟨⟨0, rfl⟩, by omega, by omega⟩
  rintro k ⟨⟨j, hj⟩, hk1, hk⟩
  have w1 : IntKind.i64.wrap (2 * (k : Int)) = ((2 * k : Nat) : Int) := by rw [wrap64] <;> omega
  by_cases hlt : 2 * k ≤ m
  · have c1 : (((2 * k : Nat) : Int) ≤ (m : Int)) = True := eq_true (by omega)
    simp only [go_sem, ↓reduceIte, reduceCtorEq, Nat.reduceAdd, Nat.reduceMul, Nat.reduceEqDiff, Nat.reduceSub, Nat.reduceLT, Nat.reduceLeDiff, Nat.reduceAnd, Nat.reduceShiftRight, Nat.reduceBEq, Nat.reduceBNe, Nat.reduceBneDiff, Nat.reduceBeqDiff, Int.reduceToNat, Int.reduceLE, Int.reduceLT, Int.reduceEq, c1, w1]
    exact ⟨2 * k, ⟨⟨j + 1, by rw [Nat.pow_succ]; omega⟩, by omega, by omega⟩, by omega, rfl⟩
  · have c1 : (((2 * k : Nat) : Int) ≤ (m : Int)) = False := eq_false (by omega)
    simp only [go_sem, ↓reduceIte, reduceCtorEq, Nat.reduceAdd, Nat.reduceMul, Nat.reduceEqDiff, Nat.reduceSub, Nat.reduceLT, Nat.reduceLeDiff, Nat.reduceAnd, Nat.reduceShiftRight, Nat.reduceBEq, Nat.reduceBNe, Nat.reduceBneDiff, Nat.reduceBeqDiff, Int.reduceToNat, Int.reduceLE, Int.reduceLT, Int.reduceEq, c1, w1]
    rw [halfN_eq hj hk (by omega)]
abbrev MHalf : FM := .f1 (eInt .i64) (eInt .i64).enc (fun n => (halfN n.toNat : Nat)) (fun n => 1 ≤ n ∧ n ≤ 256)
attribute [go_sem] MHalf
theorem ok_spec_l2Half : MHalf.ok Try.prog 98 := FM.f1_ok fun n h => by
  obtain ⟨m, rfl⟩ := Int.eq_ofNat_of_zero_le (show 0 ≤ n by omega)
  exact f_l2Half m (by omega)

theorem runM_ok {l : List ByteArray} (h : l.length ≤ 256 ∧ ∀ x ∈ l, x.size ≤ 40) (a b : Nat) : ((l.drop a).take b).length ≤ 256 ∧ ∀ x ∈ (l.drop a).take b, x.size ≤ 40 :=
  ⟨by rw [List.length_take, List.length_drop]; omega, fun x hx => h.2 x (List.mem_of_mem_drop (List.mem_of_mem_take hx))⟩
theorem halfN_in {a m : Nat} (h : a < m) : 1 ≤ halfN (m - a) ∧ a + halfN (m - a) ≤ m := by
  have h1 := halfN_pos (m - a)
  have h2 := halfN_le (n := m - a) (by omega)
  omega

abbrev OPeaks : FM := .g1 (eList cStr) (fun l => (oL 0 (peaksD l), [some (oR cDigest (peaksD l))])) (fun l => l.length ≤ 256 ∧ ∀ x ∈ l, x.size ≤ 40)
attribute [go_sem] OPeaks
def H_spec_TreePeaks : Hint := { fs := [(26, MLeavesOk), (28, MRoot), (98, MHalf)], kp := [(0, [0]), (1, [0]), (2, [0, 3]), (3, [3]), (4, [0, 3]), (5, [0, 3, 4]), (6, [0, 3, 4]), (7, [0, 3, 4, 5]), (8, [0, 3, 4, 5]), (9, [3])], an := [], own := true }
attribute [go_sem] H_spec_TreePeaks
theorem ok_H_spec_TreePeaks : H_spec_TreePeaks.ok Try.prog := AllOk.okR (.cons ok_spec_LeavesOk (.cons ok_l2Root (.cons ok_spec_l2Half .nil))) .nil mix
theorem o_TreePeaks (l : List ByteArray) (h : l.length ≤ 256 ∧ ∀ x ∈ l, x.size ≤ 40) : VFun Try.prog 70 [(eList cStr).enc l] [] (oL 0 (peaksD l)) [some (oR cDigest (peaksD l))] := by
  have hk : leavesOk l = true := by
    rw [leavesOk_good fun i x _ hx => by have := h.2 x (List.mem_of_getElem? hx); omega]
    exact decide_eq_true (by omega)
  refine VFun_own (rin := []) (n := 34) (rs := [.tmp 2]) Try.func70 rfl rfl rfl rfl H_spec_TreePeaks ok_H_spec_TreePeaks (Nat.le_of_ble_eq_true rfl) (by kernel_rfl) ?_
  simp only [go_sem, ↓reduceIte, reduceCtorEq, Nat.reduceAdd, Nat.reduceMul, Nat.reduceEqDiff, Nat.reduceSub, Nat.reduceLT, Nat.reduceLeDiff, Nat.reduceAnd, Nat.reduceShiftRight, Nat.reduceBEq, Nat.reduceBNe, Nat.reduceBneDiff, Nat.reduceBeqDiff, Int.reduceToNat, Int.reduceLE, Int.reduceLT, Int.reduceEq, hk]
  refine ⟨by omega, ?_⟩
  refine LoopV.go (H := H_spec_TreePeaks) ok_H_spec_TreePeaks (by kernel_rfl) (fun y : Nat × List Digest => ⟨[(0, .x (.o (.c (.s (l.map cStr.enc))))), (3, .x (.o (.h (1, 100) 0 y.2.length y.2.length))), (4, sc (.int .i64 y.1))], [((1, 100), .row 4 (y.2.map cDigest.enc))], 2⟩) (fun y => l.length - y.1) (fun y => y.1 ≤ l.length ∧ y.2.length ≤ y.1 ∧ y.2 ++ (peaksN y.1 l.length).map (runM l) = peaksD l) ?_ (0, []) ⟨Nat.zero_le _, Nat.le_refl _, rfl⟩
  rintro ⟨a, out⟩ ⟨j1, j2, j3⟩
  dsimp only at j1 j2 j3
  by_cases hlt : a < l.length
  · obtain ⟨k1, k2⟩ := halfN_in hlt
    rw [peaksN_go hlt] at j3
    have c1 : ((a : Int) < (l.length : Int)) = True := eq_true (by omega)
    have w1 : IntKind.i64.wrap ((l.length : Int) - (a : Int)) = ((l.length - a : Nat) : Int) := by rw [wrap64] <;> omega
    have w2 : IntKind.i64.wrap ((a : Int) + (halfN (l.length - a) : Int)) = ((a + halfN (l.length - a) : Nat) : Int) := by rw [wrap64] <;> omega
    have e : a + halfN (l.length - a) - a = halfN (l.length - a) := by omega
    simp only [go_sem, ↓reduceIte, reduceCtorEq, Nat.reduceAdd, Nat.reduceMul, Nat.reduceEqDiff, Nat.reduceSub, Nat.reduceLT, Nat.reduceLeDiff, Nat.reduceAnd, Nat.reduceShiftRight, Nat.reduceBEq, Nat.reduceBNe, Nat.reduceBneDiff, Nat.reduceBeqDiff, Int.reduceToNat, Int.reduceLE, Int.reduceLT, Int.reduceEq, c1, w1, w2]
    refine ⟨by omega, by omega, runM_ok h _ _, by omega, (a + halfN (l.length - a), out ++ [runM l (a, a + halfN (l.length - a))]), ⟨by dsimp only; omega, by simp; omega, ?_⟩, by dsimp only; omega, ?_⟩
    · rw [← j3, List.map_cons, List.append_assoc]; rfl
    · rw [List.length_append, List.map_append]; rfl
  · have c1 : ((a : Int) < (l.length : Int)) = False := eq_false (by omega)
    rw [peaksN_end (by omega), List.map_nil, List.append_nil] at j3
    simp only [go_sem, ↓reduceIte, reduceCtorEq, Nat.reduceAdd, Nat.reduceMul, Nat.reduceEqDiff, Nat.reduceSub, Nat.reduceLT, Nat.reduceLeDiff, Nat.reduceAnd, Nat.reduceShiftRight, Nat.reduceBEq, Nat.reduceBNe, Nat.reduceBneDiff, Nat.reduceBeqDiff, Int.reduceToNat, Int.reduceLE, Int.reduceLT, Int.reduceEq, c1]
    rw [j3]
    exact ⟨rfl, rfl⟩
theorem ok_spec_TreePeaks : OPeaks.ok Try.prog 70 := FM.g1_ok o_TreePeaks

theorem peaksN_in (a m : Nat) : ∀ x ∈ peaksN a m, x.2 ≤ m := by
  induction hd : m - a using Nat.strongRecOn generalizing a with
  | _ n ih =>
    subst hd
    by_cases h : a < m
    · obtain ⟨k1, k2⟩ := halfN_in h
      rw [peaksN_go h]
      intro x hx
      rcases List.mem_cons.1 hx with rfl | hx
      · exact k2
      · exact ih _ (by omega) _ rfl x hx
    · rw [peaksN_end (by omega)]
      intro x hx; cases hx
theorem peaksN_len (a m : Nat) : (peaksN a m).length ≤ m - a := by
  induction hd : m - a using Nat.strongRecOn generalizing a with
  | _ n ih =>
    subst hd
    by_cases h : a < m
    · obtain ⟨k1, k2⟩ := halfN_in h
      have := ih _ (by omega) (a + halfN (m - a)) rfl
      rw [peaksN_go h, List.length_cons]
      omega
    · rw [peaksN_end (by omega)]
      exact Nat.zero_le _
theorem peaksD_len (l : List ByteArray) : (peaksD l).length ≤ l.length := by
  rw [peaksD, List.length_map]
  exact peaksN_len 0 l.length
theorem runM_take (l : List ByteArray) {x : Nat × Nat} {m : Nat} (h : x.2 ≤ m) : runM (l.take m) x = runM l x := by
  unfold runM
  rw [List.drop_take, List.take_take, Nat.min_eq_left (by omega)]
def FM.g4 {A1 A2 A3 A4 : Type} (a : CE A1) (b : CE A2) (c : CE A3) (d : CE A4) (r : A1 → A2 → A3 → A4 → E × List (Option Root)) (pre : A1 → A2 → A3 → A4 → Prop) : FM := ⟨[], fun args rin => match args, rin with
  | [e1, e2, e3, e4], [] => match a.dec e1, b.dec e2, c.dec e3, d.dec e4 with
    | some x, some y, some z, some u => some ((r x y z u).1, (r x y z u).2, pre x y z u)
    | _, _, _, _ => none
  | _, _ => none⟩
theorem FM.g4_ok {P : Program} {g : FuncId} {A1 A2 A3 A4 : Type} {a : CE A1} {b : CE A2} {c : CE A3} {d : CE A4} {r : A1 → A2 → A3 → A4 → E × List (Option Root)} {pre : A1 → A2 → A3 → A4 → Prop} (h : ∀ x y z u, pre x y z u → VFun P g [a.enc x, b.enc y, c.enc z, d.enc u] [] (r x y z u).1 (r x y z u).2) : (FM.g4 a b c d r pre).ok P g := by
  intro args rin res rout p hm hp
  simp only [FM.g4] at hm
  split at hm
  · split at hm
    · rename_i hx hy hz hu; cases hm; exact (h _ _ _ _ hp).weaken (.cons (a.ok _ _ hx) (.cons (b.ok _ _ hy) (.cons (c.ok _ _ hz) (.cons (d.ok _ _ hu) .nil))))
    · cases hm
  · cases hm
attribute [go_sem] FM.g4

theorem restD_0 {l : List ByteArray} {lo hi m : Nat} (h : hi ≤ m) : restD l lo hi m = [] := by rw [restD, fallF_old h]; rfl
theorem restD_1 {l : List ByteArray} {lo hi m : Nat} (h : ¬ hi ≤ m) (h2 : m ≤ lo) : restD l lo hi m = [runM l (lo, hi)] := by rw [restD, fallF_new h h2]; rfl
theorem restD_s {l : List ByteArray} {lo hi m : Nat} (h : ¬ hi ≤ m) (h2 : ¬ m ≤ lo) : restD l lo hi m = restD l lo (lo + splitN (hi - lo)) m ++ restD l (lo + splitN (hi - lo)) hi m := by
  rw [restD, fallF_mid h h2, List.map_append]; rfl
theorem restD_len {l : List ByteArray} {lo hi m : Nat} (h : lo < hi) : (restD l lo hi m).length ≤ hi - lo := by
  rw [restD, List.length_map]
  have := (fall_in lo hi m h).2.2
  omega

abbrev ORestN (N : Nat) : FM := .g4 (eList cStr) (eInt .i64) (eInt .i64) (eInt .i64) (fun l lo hi m => (oL 0 (restD l lo.toNat hi.toNat m.toNat), [some (oR cDigest (restD l lo.toNat hi.toNat m.toNat))])) (fun l lo hi m => hi.toNat - lo.toNat < N ∧ (l.length ≤ 256 ∧ ∀ x ∈ l, x.size ≤ 40) ∧ 0 ≤ lo ∧ lo < hi ∧ hi ≤ l.length ∧ 0 ≤ m)
attribute [go_sem] ORestN
def H_spec_l3RestRoots (N : Nat) : Hint := { fs := [(28, MRoot), (66, MSplit), (69, ODigests), (71, (ORestN N))], kp := [(0, [0, 1, 2, 3]), (1, [0, 1, 2, 3]), (2, []), (3, [0, 1, 2, 3]), (4, [0, 1, 2]), (5, [0, 1, 2, 3]), (6, [0, 1, 2, 3, 9])], an := [], own := true }
attribute [go_sem] H_spec_l3RestRoots
theorem ok_H_spec_l3RestRoots (N : Nat) (ih : (ORestN N).ok Try.prog 71) : (H_spec_l3RestRoots N).ok Try.prog := AllOk.okR (.cons ok_l2Root (.cons ok_spec_TreeSplit (.cons ok_spec_l3Digests (.cons ih .nil)))) .nil mix
theorem o_l3RestRoots : ∀ (N : Nat) (l : List ByteArray) (lo hi m : Int), (hi.toNat - lo.toNat < N ∧ (l.length ≤ 256 ∧ ∀ x ∈ l, x.size ≤ 40) ∧ 0 ≤ lo ∧ lo < hi ∧ hi ≤ l.length ∧ 0 ≤ m) → VFun Try.prog 71 [(eList cStr).enc l, (eInt .i64).enc lo, (eInt .i64).enc hi, (eInt .i64).enc m] [] (oL 0 (restD l lo.toNat hi.toNat m.toNat)) [some (oR cDigest (restD l lo.toNat hi.toNat m.toNat))]
  | 0, l, lo, hi, m, h => absurd h.1 (by omega)
  | N + 1, l, lo, hi, m, h => by
    have ih : (ORestN N).ok Try.prog 71 := FM.g4_ok fun l lo hi m h => o_l3RestRoots N l lo hi m h
    obtain ⟨h0, hl, h1, h2, h3, h4⟩ := h
    obtain ⟨lo, rfl⟩ := Int.eq_ofNat_of_zero_le h1
    obtain ⟨hi, rfl⟩ := Int.eq_ofNat_of_zero_le (show 0 ≤ hi by omega)
    obtain ⟨m, rfl⟩ := Int.eq_ofNat_of_zero_le h4
    simp only [Int.toNat_natCast] at h0 ⊢
    have hlo : (lo : Int) < hi := h2
    have w1 : IntKind.i64.wrap ((hi : Int) - (lo : Int)) = ((hi - lo : Nat) : Int) := by rw [wrap64] <;> omega
    refine VFun_own (rin := []) (n := 40) (rs := [.tmp 8]) Try.func71 rfl rfl rfl rfl (H_spec_l3RestRoots N) (ok_H_spec_l3RestRoots N ih) (Nat.le_of_ble_eq_true rfl) (by kernel_rfl) ?_
    by_cases c1 : (hi : Int) ≤ m
    · rw [restD_0 (by omega)]
      simp only [go_sem, ↓reduceIte, reduceCtorEq, Nat.reduceAdd, Nat.reduceMul, Nat.reduceEqDiff, Nat.reduceSub, Nat.reduceLT, Nat.reduceLeDiff, Nat.reduceAnd, Nat.reduceShiftRight, Nat.reduceBEq, Nat.reduceBNe, Nat.reduceBneDiff, Nat.reduceBeqDiff, Int.reduceToNat, Int.reduceLE, Int.reduceLT, Int.reduceEq, c1]
    by_cases c2 : (m : Int) ≤ lo
    · rw [restD_1 (by omega) (by omega)]
      simp only [go_sem, ↓reduceIte, reduceCtorEq, Nat.reduceAdd, Nat.reduceMul, Nat.reduceEqDiff, Nat.reduceSub, Nat.reduceLT, Nat.reduceLeDiff, Nat.reduceAnd, Nat.reduceShiftRight, Nat.reduceBEq, Nat.reduceBNe, Nat.reduceBneDiff, Nat.reduceBeqDiff, Int.reduceToNat, Int.reduceLE, Int.reduceLT, Int.reduceEq, c1, c2]
      exact ⟨⟨by omega, by omega⟩, runM_ok hl _ _, rfl⟩
    · have hs : splitM ((hi - lo : Nat) : Int) = (splitN (hi - lo) : Nat) := splitM_in (by omega) (by omega)
      have k1 := splitN_lt (n := hi - lo) (by omega)
      have k2 := splitN_pos (hi - lo)
      have w2 : IntKind.i64.wrap ((lo : Int) + (splitN (hi - lo) : Nat)) = ((lo + splitN (hi - lo) : Nat) : Int) := by rw [wrap64] <;> omega
      rw [restD_s (by omega) (by omega)]
      have d1 := restD_len (l := l) (lo := lo) (hi := lo + splitN (hi - lo)) (m := m) (by omega)
      have d2 := restD_len (l := l) (lo := lo + splitN (hi - lo)) (hi := hi) (m := m) (by omega)
      simp only [go_sem, ↓reduceIte, reduceCtorEq, Nat.reduceAdd, Nat.reduceMul, Nat.reduceEqDiff, Nat.reduceSub, Nat.reduceLT, Nat.reduceLeDiff, Nat.reduceAnd, Nat.reduceShiftRight, Nat.reduceBEq, Nat.reduceBNe, Nat.reduceBneDiff, Nat.reduceBeqDiff, Int.reduceToNat, Int.reduceLE, Int.reduceLT, Int.reduceEq, c1, c2, w1, hs, w2]
      exact ⟨⟨by omega, hl, by omega, by omega⟩, ⟨by omega, hl, by omega, by omega⟩, by omega, by omega⟩
abbrev ORest : FM := .g4 (eList cStr) (eInt .i64) (eInt .i64) (eInt .i64) (fun l lo hi m => (oL 0 (restD l lo.toNat hi.toNat m.toNat), [some (oR cDigest (restD l lo.toNat hi.toNat m.toNat))])) (fun l lo hi m => (l.length ≤ 256 ∧ ∀ x ∈ l, x.size ≤ 40) ∧ 0 ≤ lo ∧ lo < hi ∧ hi ≤ l.length ∧ 0 ≤ m)
attribute [go_sem] ORest
theorem ok_spec_l3RestRoots : ORest.ok Try.prog 71 := FM.g4_ok fun l lo hi m h => o_l3RestRoots (hi.toNat - lo.toNat + 1) l lo hi m ⟨by omega, h⟩

abbrev MSizes : FM := .f2 (eInt .i64) (eInt .i64) eBool.enc (fun m n => decide ((0 ≤ m ∧ m ≤ n) ∧ n ≤ 256)) (fun _ _ => True)
attribute [go_sem] MSizes

def H_spec_l3Sizes : Hint := { fs := [(62, M166)], kp := [(0, [0, 1]), (1, [0, 1])], an := [] }
attribute [go_sem] H_spec_l3Sizes
theorem ok_H_spec_l3Sizes : H_spec_l3Sizes.ok Try.prog := AllOk.okR (.cons m166 .nil) .nil mix
theorem f_l3Sizes (m n : Int) : VFun Try.prog 68 [(eInt .i64).enc m, (eInt .i64).enc n] [] (eBool.enc (decide ((0 ≤ m ∧ m ≤ n) ∧ n ≤ 256))) [] := by
  refine VFun_pure (n := 12) (rs := [.tmp 4]) Try.func68 rfl rfl rfl rfl H_spec_l3Sizes ok_H_spec_l3Sizes _ _ (Nat.le_of_ble_eq_true rfl) (by kernel_rfl) ?_
  simp only [go_sem, ↓reduceIte, reduceCtorEq, Nat.reduceAdd, Nat.reduceMul, Nat.reduceEqDiff, Nat.reduceSub, Nat.reduceLT, Nat.reduceLeDiff, Nat.reduceAnd, Nat.reduceShiftRight, Nat.reduceBEq, Nat.reduceBNe, Nat.reduceBneDiff, Nat.reduceBeqDiff, Int.reduceToNat, Int.reduceLE, Int.reduceLT, Int.reduceEq]
  (repeat' refine ite_intro (fun _ => ?_) fun _ => ?_) <;> simp_all <;> omega
theorem ok_spec_l3Sizes : MSizes.ok Try.prog 68 := FM.f2_ok fun m n _ => f_l3Sizes m n

def H_impl_mayGrow : Hint := { fs := [(72, M166)], kp := [(0, [0, 1]), (1, [0, 1])], an := [] }
attribute [go_sem] H_impl_mayGrow
theorem ok_H_impl_mayGrow : H_impl_mayGrow.ok Try.prog := AllOk.okR (.cons m180 .nil) .nil mix
theorem f_mayGrow (m n : Int) : VFun Try.prog 53 [(eInt .i64).enc m, (eInt .i64).enc n] [] (eBool.enc (decide ((0 ≤ m ∧ m ≤ n) ∧ n ≤ 256))) [] := by
  refine VFun_pure (n := 12) (rs := [.tmp 4]) Try.func53 rfl rfl rfl rfl H_impl_mayGrow ok_H_impl_mayGrow _ _ (Nat.le_of_ble_eq_true rfl) (by kernel_rfl) ?_
  simp only [go_sem, ↓reduceIte, reduceCtorEq, Nat.reduceAdd, Nat.reduceMul, Nat.reduceEqDiff, Nat.reduceSub, Nat.reduceLT, Nat.reduceLeDiff, Nat.reduceAnd, Nat.reduceShiftRight, Nat.reduceBEq, Nat.reduceBNe, Nat.reduceBneDiff, Nat.reduceBeqDiff, Int.reduceToNat, Int.reduceLE, Int.reduceLT, Int.reduceEq]
  (repeat' refine ite_intro (fun _ => ?_) fun _ => ?_) <;> simp_all <;> omega
theorem ok_impl_mayGrow : MSizes.ok Try.prog 53 := FM.f2_ok fun m n _ => f_mayGrow m n

abbrev oGrow (r : List Digest × Bool) : E := .t [.o (.h (0, 0) 0 r.1.length r.1.length), .o (.c (.v (.bool r.2)))]
attribute [go_sem] oGrow
abbrev OGrow : FM := .g2 (eList cStr) (eInt .i64) (fun l m => (oGrow (growM l m), [some (oR cDigest (growM l m).1)])) (fun l _ => l.length ≤ 1048576)
attribute [go_sem] OGrow
theorem growM_no {l : List ByteArray} {m : Int} (h : ¬ (leavesOk l = true ∧ 0 ≤ m ∧ m ≤ l.length)) : growM l m = ([], false) := by
  rw [growM, if_neg]
  unfold growOk
  intro hh
  simp only [Bool.and_eq_true, decide_eq_true_eq] at hh
  exact h hh
theorem growM_e {l : List ByteArray} {m : Int} (h : leavesOk l = true) (h1 : 0 ≤ m) (h2 : m ≤ l.length) (h3 : m = 0 ∨ m = l.length) : growM l m = ([], true) := by
  rw [growM, if_pos (by unfold growOk; simp [h, h1, h2]), growN_0 l (by omega)]
theorem growM_s {l : List ByteArray} {m : Nat} (h : leavesOk l = true) (h1 : 0 < m) (h2 : m < l.length) : growM l m = ((fallO 0 l.length m ++ fallF 0 l.length m).map (runM l), true) := by
  rw [growM, if_pos (by unfold growOk; simp [h]; omega), Int.toNat_natCast, growN_s l (by omega)]
theorem growM_p {l : List ByteArray} {m : Nat} (h : leavesOk l = true) (h1 : 0 < m) (h2 : m < l.length) : growM l m = (peaksD (l.take m) ++ restD l 0 l.length m, true) := by
  rw [growM, if_pos (by unfold growOk; simp [h]; omega), Int.toNat_natCast, growN_p l h1 h2]
  have e : (l.take m).length = m := by rw [List.length_take]; omega
  have e2 : (peaksN 0 m).map (runM l) = peaksD (l.take m) := by
    rw [peaksD, e]
    exact List.map_congr_left fun x hx => (runM_take l (peaksN_in 0 m x hx)).symm
  rw [e2]; rfl

abbrev ODigCopy : FM := .g1 (eList cDigest) (fun xs => (oL 0 xs, [some (oR cDigest xs)])) (fun xs => xs.length ≤ 1100000)
attribute [go_sem] ODigCopy

def H_spec_GrowthOf : Hint := { fs := [(26, MLeavesOk), (68, MSizes), (69, ODigests), (70, OPeaks), (71, ORest)], kp := [(0, [0, 1]), (1, [0, 1]), (2, []), (3, [0, 1]), (4, []), (5, [0, 1])], an := [], own := true }
attribute [go_sem] H_spec_GrowthOf
theorem ok_H_spec_GrowthOf : H_spec_GrowthOf.ok Try.prog := AllOk.okR (.cons ok_spec_LeavesOk (.cons ok_spec_l3Sizes (.cons ok_spec_l3Digests (.cons ok_spec_TreePeaks (.cons ok_spec_l3RestRoots .nil))))) .nil mix
theorem o_spec_GrowthOf (l : List ByteArray) (m : Int) (h : l.length ≤ 1048576) : VFun Try.prog 29 [(eList cStr).enc l, (eInt .i64).enc m] [] (oGrow (growM l m)) [some (oR cDigest (growM l m).1)] := by
  refine VFun_own (rin := []) (n := 36) (rs := [.tmp 4, .tmp 5]) Try.func29 rfl rfl rfl rfl H_spec_GrowthOf ok_H_spec_GrowthOf (Nat.le_of_ble_eq_true rfl) (by kernel_rfl) ?_
  by_cases h1 : leavesOk l = true ∧ 0 ≤ m ∧ m ≤ l.length
  case neg =>
    rw [growM_no h1]
    simp only [go_sem, ↓reduceIte, reduceCtorEq, Nat.reduceAdd, Nat.reduceMul, Nat.reduceEqDiff, Nat.reduceSub, Nat.reduceLT, Nat.reduceLeDiff, Nat.reduceAnd, Nat.reduceShiftRight, Nat.reduceBEq, Nat.reduceBNe, Nat.reduceBneDiff, Nat.reduceBeqDiff, Int.reduceToNat, Int.reduceLE, Int.reduceLT, Int.reduceEq]
    exact ⟨h, ite_intro (fun hk => ite_intro (fun _ => trivial) fun hn => absurd ⟨hk, by have := Classical.not_not.1 hn; omega⟩ h1) fun _ => trivial⟩
  obtain ⟨hk, g1, g2⟩ := h1
  have hl := leavesOk_iff hk
  have c1 : ((0 ≤ m ∧ m ≤ (l.length : Int)) ∧ (l.length : Int) ≤ 256) = True := eq_true (by omega)
  by_cases h2 : m = 0 ∨ m = l.length
  · rw [growM_e hk g1 g2 h2]
    simp only [go_sem, ↓reduceIte, reduceCtorEq, Nat.reduceAdd, Nat.reduceMul, Nat.reduceEqDiff, Nat.reduceSub, Nat.reduceLT, Nat.reduceLeDiff, Nat.reduceAnd, Nat.reduceShiftRight, Nat.reduceBEq, Nat.reduceBNe, Nat.reduceBneDiff, Nat.reduceBeqDiff, Int.reduceToNat, Int.reduceLE, Int.reduceLT, Int.reduceEq, hk, c1]
    exact ⟨h, ite_intro (fun a => ite_intro (fun _ => trivial) fun b => absurd h2 (by omega)) fun _ => trivial⟩
  · obtain ⟨m, rfl⟩ := Int.eq_ofNat_of_zero_le g1
    have c2 : ((m : Int) = 0) = False := eq_false (by omega)
    have c3 : ((m : Int) = (l.length : Int)) = False := eq_false (by omega)
    have c4 : ((m : Int) ≤ (l.length : Int) ∧ (l.length : Int) ≤ 256) = True := eq_true (by omega)
    have d1 := peaksD_len (l.take m)
    have d2 := restD_len (l := l) (lo := 0) (hi := l.length) (m := m) (by omega)
    have e : (l.take m).length = m := by rw [List.length_take]; omega
    rw [growM_p hk (by omega) (by omega)]
    simp only [go_sem, ↓reduceIte, reduceCtorEq, Nat.reduceAdd, Nat.reduceMul, Nat.reduceEqDiff, Nat.reduceSub, Nat.reduceLT, Nat.reduceLeDiff, Nat.reduceAnd, Nat.reduceShiftRight, Nat.reduceBEq, Nat.reduceBNe, Nat.reduceBneDiff, Nat.reduceBeqDiff, Int.reduceToNat, Int.reduceLE, Int.reduceLT, Int.reduceEq, hk, c4, c2, c3]
    exact ⟨h, by omega, ⟨by omega, fun x hx => hl.2 x (List.mem_of_mem_take hx)⟩, ⟨hl, by omega, by omega⟩, by omega, by omega⟩
theorem ok_spec_GrowthOf : OGrow.ok Try.prog 29 := FM.g2_ok o_spec_GrowthOf

/-- Nodes with numbers of the program. -/
def nodeI (x : Nat × Nat) : Int × Int := ((x.1 : Int), (x.2 : Int))
abbrev nodes2 (xs ys : List (Int × Int)) : E := .t [.o (.h (0, 0) 0 xs.length xs.length), .o (.h (0, 1) 0 ys.length ys.length)]
abbrev nodesR (xs ys : List (Int × Int)) : List (Option Root) := [some (oR cNode xs), some (oR cNode ys)]
attribute [go_sem] nodes2 nodesR
def oldI (lo hi m : Nat) : List (Int × Int) := (fallO lo hi m).map nodeI
def newI (lo hi m : Nat) : List (Int × Int) := (fallF lo hi m).map nodeI
/-- What falls of a node: into lists of one's own, or into none. -/
def FM.fallN (N : Nat) : FM := ⟨[2, 3], fun args rin => match args, rin with
  | [e1, e2, .x (.o (.h (0, 0) 0 n1 m1)), .x (.o (.h (0, 1) 0 n2 m2))], [.row 2 rows, .row 2 rowt] => match (CE.st cNode).dec e1, (eInt .i64).dec e2, mapO cNode.dec rows, mapO cNode.dec rowt with
    | some x, some m, some xs, some ys => some (nodes2 (xs ++ oldI x.1.toNat x.2.toNat m.toNat) (ys ++ newI x.1.toNat x.2.toNat m.toNat), nodesR (xs ++ oldI x.1.toNat x.2.toNat m.toNat) (ys ++ newI x.1.toNat x.2.toNat m.toNat),
        (n1 = xs.length ∧ m1 = xs.length ∧ n2 = ys.length ∧ m2 = ys.length ∧ rows = xs.map cNode.enc ∧ rowt = ys.map cNode.enc) ∧ x.2.toNat - x.1.toNat < N ∧ (0 ≤ x.1 ∧ x.1 < x.2 ∧ x.2 ≤ 256) ∧ 0 ≤ m ∧ xs.length + (x.2.toNat - x.1.toNat) ≤ 1000 ∧ ys.length + (x.2.toNat - x.1.toNat) ≤ 1000)
    | _, _, _, _ => none
  | [e1, e2, .x (.o (.c (.v (.slice none 0 0)))), .x (.o (.c (.v (.slice none 0 0))))], [] => match (CE.st cNode).dec e1, (eInt .i64).dec e2 with
    | some x, some m => some (nodes2 (oldI x.1.toNat x.2.toNat m.toNat) (newI x.1.toNat x.2.toNat m.toNat), nodesR (oldI x.1.toNat x.2.toNat m.toNat) (newI x.1.toNat x.2.toNat m.toNat), x.2.toNat - x.1.toNat < N ∧ (0 ≤ x.1 ∧ x.1 < x.2 ∧ x.2 ≤ 256) ∧ 0 ≤ m)
    | _, _ => none
  | _, _ => none⟩
attribute [go_sem] FM.fallN
theorem oldI_0 {lo hi m : Nat} (h : hi ≤ m) : oldI lo hi m = [((lo : Int), (hi : Int))] := by rw [oldI, fallO_old h]; rfl
theorem newI_0 {lo hi m : Nat} (h : hi ≤ m) : newI lo hi m = [] := by rw [newI, fallF_old h]; rfl
theorem oldI_1 {lo hi m : Nat} (h : ¬ hi ≤ m) (h2 : m ≤ lo) : oldI lo hi m = [] := by rw [oldI, fallO_new h h2]; rfl
theorem newI_1 {lo hi m : Nat} (h : ¬ hi ≤ m) (h2 : m ≤ lo) : newI lo hi m = [((lo : Int), (hi : Int))] := by rw [newI, fallF_new h h2]; rfl
theorem oldI_s {lo hi m : Nat} (h : ¬ hi ≤ m) (h2 : ¬ m ≤ lo) : oldI lo hi m = oldI lo (lo + splitN (hi - lo)) m ++ oldI (lo + splitN (hi - lo)) hi m := by
  rw [oldI, fallO_mid h h2, List.map_append]; rfl
theorem newI_s {lo hi m : Nat} (h : ¬ hi ≤ m) (h2 : ¬ m ≤ lo) : newI lo hi m = newI lo (lo + splitN (hi - lo)) m ++ newI (lo + splitN (hi - lo)) hi m := by
  rw [newI, fallF_mid h h2, List.map_append]; rfl
theorem fallI_len {lo hi m : Nat} (h : lo < hi) : (oldI lo hi m).length + (newI lo hi m).length ≤ hi - lo := by
  rw [oldI, newI, List.length_map, List.length_map]
  exact (fall_in lo hi m h).2.2

def H_impl_fall (N : Nat) : Hint := { fs := [(90, MHalves), (102, (FM.fallN N))], kp := [(0, [0, 1, 2, 3]), (1, [1, 2, 3, 4]), (2, [2, 3, 4]), (3, [1, 2, 3, 4]), (4, [2, 3, 4]), (5, [1, 2, 3, 4]), (6, [1, 2, 3, 10, 11]), (7, [1, 2, 3, 11])], an := [], own := true, nl := [(1, [(2, 2), (3, 2)])] }
attribute [go_sem] H_impl_fall
theorem ok_H_impl_fall (N : Nat) (ih : (FM.fallN N).ok Try.prog 102) : (H_impl_fall N).ok Try.prog := AllOk.okR (.cons ok_impl_node_halves (.cons ih .nil)) .nil mix
theorem f_fall (N : Nat) (ih : (FM.fallN N).ok Try.prog 102) (lo hi m : Nat) (xs ys : List (Int × Int)) (h0 : hi - lo < N + 1) (h1 : lo < hi) (h2 : hi ≤ 256) (hx : xs.length + (hi - lo) ≤ 1000) (hy : ys.length + (hi - lo) ≤ 1000) : VFun Try.prog 102 [(CE.st cNode).enc ((lo : Int), (hi : Int)), (eInt .i64).enc m, oL 0 xs, oL 1 ys] [some (oR cNode xs), some (oR cNode ys)] (nodes2 (xs ++ oldI lo hi m) (ys ++ newI lo hi m)) (nodesR (xs ++ oldI lo hi m) (ys ++ newI lo hi m)) := by
  refine VFun_own (rin := [oR cNode xs, oR cNode ys]) (n := 52) (rs := [.tmp 8, .tmp 9]) Try.func102 rfl rfl rfl rfl (H_impl_fall N) (ok_H_impl_fall N ih) (Nat.le_of_ble_eq_true rfl) (by kernel_rfl) ?_
  by_cases c1 : (hi : Int) ≤ m
  · rw [oldI_0 (by omega), newI_0 (by omega)]
    simp only [go_sem, ↓reduceIte, reduceCtorEq, Nat.reduceAdd, Nat.reduceMul, Nat.reduceEqDiff, Nat.reduceSub, Nat.reduceLT, Nat.reduceLeDiff, Nat.reduceAnd, Nat.reduceShiftRight, Nat.reduceBEq, Nat.reduceBNe, Nat.reduceBneDiff, Nat.reduceBeqDiff, Int.reduceToNat, Int.reduceLE, Int.reduceLT, Int.reduceEq, c1]
    exact ⟨by omega, by rw [List.map_append]; rfl⟩
  by_cases c2 : (m : Int) ≤ lo
  · rw [oldI_1 (by omega) (by omega), newI_1 (by omega) (by omega)]
    simp only [go_sem, ↓reduceIte, reduceCtorEq, Nat.reduceAdd, Nat.reduceMul, Nat.reduceEqDiff, Nat.reduceSub, Nat.reduceLT, Nat.reduceLeDiff, Nat.reduceAnd, Nat.reduceShiftRight, Nat.reduceBEq, Nat.reduceBNe, Nat.reduceBneDiff, Nat.reduceBeqDiff, Int.reduceToNat, Int.reduceLE, Int.reduceLT, Int.reduceEq, c1, c2]
    exact ⟨by omega, by rw [List.map_append]; rfl⟩
  have hs : splitM ((hi : Int) - (lo : Int)) = (splitN (hi - lo) : Nat) := by
    rw [show (hi : Int) - (lo : Int) = ((hi - lo : Nat) : Int) by omega]
    exact splitM_in (by omega) (by omega)
  have k1 := splitN_lt (n := hi - lo) (by omega)
  have k2 := splitN_pos (hi - lo)
  have hh : halvesM ((lo : Int), (hi : Int)) = (((lo : Int), ((lo + splitN (hi - lo) : Nat) : Int)), (((lo + splitN (hi - lo) : Nat) : Int), (hi : Int))) := by
    unfold halvesM
    dsimp only
    rw [hs]; rfl
  have l1 := fallI_len (lo := lo) (hi := lo + splitN (hi - lo)) (m := m) (by omega)
  rw [oldI_s (by omega) (by omega), newI_s (by omega) (by omega), ← List.append_assoc, ← List.append_assoc]
  simp only [go_sem, ↓reduceIte, reduceCtorEq, Nat.reduceAdd, Nat.reduceMul, Nat.reduceEqDiff, Nat.reduceSub, Nat.reduceLT, Nat.reduceLeDiff, Nat.reduceAnd, Nat.reduceShiftRight, Nat.reduceBEq, Nat.reduceBNe, Nat.reduceBneDiff, Nat.reduceBeqDiff, Int.reduceToNat, Int.reduceLE, Int.reduceLT, Int.reduceEq, c1, c2, hh]
  exact ⟨by omega, ⟨by omega, by omega, by omega, by omega⟩, by omega, by omega, by omega, by omega⟩
theorem f_fallNil (N : Nat) (ih : (FM.fallN N).ok Try.prog 102) (lo hi m : Nat) (h0 : hi - lo < N + 1) (h1 : lo < hi) (h2 : hi ≤ 256) : VFun Try.prog 102 [(CE.st cNode).enc ((lo : Int), (hi : Int)), (eInt .i64).enc m, .x (.o (.c (.v (.slice none 0 0)))), .x (.o (.c (.v (.slice none 0 0))))] [] (nodes2 (oldI lo hi m) (newI lo hi m)) (nodesR (oldI lo hi m) (newI lo hi m)) := by
  refine VFun_own (rin := []) (n := 52) (rs := [.tmp 8, .tmp 9]) Try.func102 rfl rfl rfl rfl (H_impl_fall N) (ok_H_impl_fall N ih) (Nat.le_of_ble_eq_true rfl) (by kernel_rfl) ?_
  by_cases c1 : (hi : Int) ≤ m
  · rw [oldI_0 (by omega), newI_0 (by omega)]
    simp only [go_sem, ↓reduceIte, reduceCtorEq, Nat.reduceAdd, Nat.reduceMul, Nat.reduceEqDiff, Nat.reduceSub, Nat.reduceLT, Nat.reduceLeDiff, Nat.reduceAnd, Nat.reduceShiftRight, Nat.reduceBEq, Nat.reduceBNe, Nat.reduceBneDiff, Nat.reduceBeqDiff, Int.reduceToNat, Int.reduceLE, Int.reduceLT, Int.reduceEq, c1]
    done
  by_cases c2 : (m : Int) ≤ lo
  · rw [oldI_1 (by omega) (by omega), newI_1 (by omega) (by omega)]
    simp only [go_sem, ↓reduceIte, reduceCtorEq, Nat.reduceAdd, Nat.reduceMul, Nat.reduceEqDiff, Nat.reduceSub, Nat.reduceLT, Nat.reduceLeDiff, Nat.reduceAnd, Nat.reduceShiftRight, Nat.reduceBEq, Nat.reduceBNe, Nat.reduceBneDiff, Nat.reduceBeqDiff, Int.reduceToNat, Int.reduceLE, Int.reduceLT, Int.reduceEq, c1, c2]
    done
  have hs : splitM ((hi : Int) - (lo : Int)) = (splitN (hi - lo) : Nat) := by
    rw [show (hi : Int) - (lo : Int) = ((hi - lo : Nat) : Int) by omega]
    exact splitM_in (by omega) (by omega)
  have k1 := splitN_lt (n := hi - lo) (by omega)
  have k2 := splitN_pos (hi - lo)
  have hh : halvesM ((lo : Int), (hi : Int)) = (((lo : Int), ((lo + splitN (hi - lo) : Nat) : Int)), (((lo + splitN (hi - lo) : Nat) : Int), (hi : Int))) := by
    unfold halvesM
    dsimp only
    rw [hs]; rfl
  have l1 := fallI_len (lo := lo) (hi := lo + splitN (hi - lo)) (m := m) (by omega)
  rw [oldI_s (by omega) (by omega), newI_s (by omega) (by omega)]
  simp only [go_sem, ↓reduceIte, reduceCtorEq, Nat.reduceAdd, Nat.reduceMul, Nat.reduceEqDiff, Nat.reduceSub, Nat.reduceLT, Nat.reduceLeDiff, Nat.reduceAnd, Nat.reduceShiftRight, Nat.reduceBEq, Nat.reduceBNe, Nat.reduceBneDiff, Nat.reduceBeqDiff, Int.reduceToNat, Int.reduceLE, Int.reduceLT, Int.reduceEq, c1, c2, hh]
  exact ⟨by omega, ⟨by omega, by omega, by omega, by omega⟩, by omega, by omega, by omega, by omega⟩
theorem fallN_ok : ∀ N, (FM.fallN N).ok Try.prog 102
  | 0 => by
    intro args rin res rout p hm hp
    simp only [FM.fallN] at hm
    split at hm
    · split at hm
      · cases hm; exact absurd hp.2.1 (by omega)
      · cases hm
    · split at hm
      · cases hm; exact absurd hp.1 (by omega)
      · cases hm
    · cases hm
  | N + 1 => by
    have ih := fallN_ok N
    intro args rin res rout p hm hp
    simp only [FM.fallN] at hm
    split at hm
    · split at hm
      · rename_i x m xs ys hx hm' hxs hys
        cases hm
        obtain ⟨⟨rfl, rfl, rfl, rfl, rfl, rfl⟩, h0, h1, h2, h3, h4⟩ := hp
        obtain ⟨lo, hi⟩ := x
        dsimp only at h0 h1 h3 h4
        obtain ⟨lo, rfl⟩ := Int.eq_ofNat_of_zero_le h1.1
        obtain ⟨hi, rfl⟩ := Int.eq_ofNat_of_zero_le (show 0 ≤ hi by omega)
        obtain ⟨m, rfl⟩ := Int.eq_ofNat_of_zero_le h2
        exact (f_fall N ih lo hi m xs ys h0 (by omega) (by omega) h3 h4).weaken (.cons ((CE.st cNode).ok _ _ hx) (.cons ((eInt .i64).ok _ _ hm') (.cons (fun _ _ _ _ _ h => h) (.cons (fun _ _ _ _ _ h => h) .nil))))
      · cases hm
    · split at hm
      · rename_i x m hx hm'
        cases hm
        obtain ⟨h0, h1, h2⟩ := hp
        obtain ⟨lo, hi⟩ := x
        dsimp only at h0 h1
        obtain ⟨lo, rfl⟩ := Int.eq_ofNat_of_zero_le h1.1
        obtain ⟨hi, rfl⟩ := Int.eq_ofNat_of_zero_le (show 0 ≤ hi by omega)
        obtain ⟨m, rfl⟩ := Int.eq_ofNat_of_zero_le h2
        exact (f_fallNil N ih lo hi m h0 (by omega) (by omega)).weaken (.cons ((CE.st cNode).ok _ _ hx) (.cons ((eInt .i64).ok _ _ hm') (.cons (fun _ _ _ _ _ h => h) (.cons (fun _ _ _ _ _ h => h) .nil))))
      · cases hm
    · cases hm
abbrev MFall : FM := FM.fallN 1000
attribute [go_sem] MFall
theorem ok_impl_fall : MFall.ok Try.prog 102 := fallN_ok 1000

def H_impl_growthNodes : Hint := { fs := [(102, MFall)], kp := [(0, [0, 1]), (1, [0, 1])], an := [], own := true }
attribute [go_sem] H_impl_growthNodes
theorem ok_H_impl_growthNodes : H_impl_growthNodes.ok Try.prog := AllOk.okR (.cons ok_impl_fall .nil) .nil mix
theorem o_growthNodes (m n : Int) (h : 0 ≤ m ∧ 0 < n ∧ n ≤ 256) : VFun Try.prog 78 [(eInt .i64).enc m, (eInt .i64).enc n] [] (nodes2 (oldI 0 n.toNat m.toNat) (newI 0 n.toNat m.toNat)) (nodesR (oldI 0 n.toNat m.toNat) (newI 0 n.toNat m.toNat)) := by
  refine VFun_own (rin := []) (n := 12) (rs := [.tmp 4, .tmp 5]) Try.func78 rfl rfl rfl rfl H_impl_growthNodes ok_H_impl_growthNodes (Nat.le_of_ble_eq_true rfl) (by kernel_rfl) ?_
  simp only [go_sem, ↓reduceIte, reduceCtorEq, Nat.reduceAdd, Nat.reduceMul, Nat.reduceEqDiff, Nat.reduceSub, Nat.reduceLT, Nat.reduceLeDiff, Nat.reduceAnd, Nat.reduceShiftRight, Nat.reduceBEq, Nat.reduceBNe, Nat.reduceBneDiff, Nat.reduceBeqDiff, Int.reduceToNat, Int.reduceLE, Int.reduceLT, Int.reduceEq]
  exact ⟨by omega, by omega, by omega⟩
abbrev ONodes : FM := .g2 (eInt .i64) (eInt .i64) (fun m n => (nodes2 (oldI 0 n.toNat m.toNat) (newI 0 n.toNat m.toNat), nodesR (oldI 0 n.toNat m.toNat) (newI 0 n.toNat m.toNat))) (fun m n => 0 ≤ m ∧ 0 < n ∧ n ≤ 256)
attribute [go_sem] ONodes
theorem ok_impl_growthNodes : ONodes.ok Try.prog 78 := FM.g2_ok o_growthNodes

def H_impl_copied_impl_Digest : Hint := { fs := [], kp := [(0, [0]), (1, [0]), (2, []), (3, [0]), (4, [0, 3]), (5, [3])], an := [], own := true, ow := [(0, 0, 4)] }
attribute [go_sem] H_impl_copied_impl_Digest
theorem ok_H_impl_copied_impl_Digest : H_impl_copied_impl_Digest.ok Try.prog := AllOk.okR .nil .nil mix
theorem o_copied_dig (xs : List Digest) (h : xs.length ≤ 1100000) : VFun Try.prog 79 [(eList cDigest).enc xs] [] (oL 0 xs) [some (oR cDigest xs)] := by
  refine VFun_own (rin := []) (n := 14) (rs := [.tmp 2]) Try.func79 rfl rfl rfl rfl H_impl_copied_impl_Digest ok_H_impl_copied_impl_Digest (Nat.le_of_ble_eq_true rfl) (by kernel_rfl) ?_
  simp only [go_sem, ↓reduceIte, reduceCtorEq, Nat.reduceAdd, Nat.reduceMul, Nat.reduceEqDiff, Nat.reduceSub, Nat.reduceLT, Nat.reduceLeDiff, Nat.reduceAnd, Nat.reduceShiftRight, Nat.reduceBEq, Nat.reduceBNe, Nat.reduceBneDiff, Nat.reduceBeqDiff, Int.reduceToNat, Int.reduceLE, Int.reduceLT, Int.reduceEq]
  refine ite_intro (fun h1 => ?_) fun h1 => ?_
  · have : xs = [] := by simpa using h1
    rw [this]; exact ⟨rfl, rfl⟩
  · (repeat' apply And.intro) <;> first | omega | exact map_len_all cDigest rfl xs | (simp; done) | rfl
theorem ok_impl_copied_impl_Digest : ODigCopy.ok Try.prog 79 := FM.g1_ok fun xs h => o_copied_dig xs h

theorem nodes_eq (l : List ByteArray) (m : Nat) : (oldI 0 l.length m ++ newI 0 l.length m) = (fallO 0 l.length m ++ fallF 0 l.length m).map nodeI := by
  rw [oldI, newI, List.map_append]

def H_impl_GrowthOf : Hint := { fs := [(34, MLeavesOk), (36, MRoot), (53, MSizes), (78, ONodes), (79, ODigCopy)], kp := [(0, [0, 1]), (1, [0, 1]), (2, []), (3, [0, 1]), (4, []), (5, [0, 1]), (6, [0, 6, 7]), (7, [0, 6, 7, 8]), (8, [0, 8, 38, 39, 40]), (9, [0, 8, 38, 39, 40]), (10, [0, 8, 10, 38, 39, 40]), (11, [0, 8, 38, 39, 40]), (12, [8])], an := [], own := true, ow := [(0, 0, 4)], nl := [(7, [(8, 4)])] }
attribute [go_sem] H_impl_GrowthOf
theorem ok_H_impl_GrowthOf : H_impl_GrowthOf.ok Try.prog := AllOk.okR (.cons ok_impl_LeavesOk (.cons ok_rootOf (.cons ok_impl_mayGrow (.cons ok_impl_growthNodes (.cons ok_impl_copied_impl_Digest .nil))))) .nil mix
theorem o_impl_GrowthOf (l : List ByteArray) (m : Int) (h : l.length ≤ 1048576) : VFun Try.prog 37 [(eList cStr).enc l, (eInt .i64).enc m] [] (oGrow (growM l m)) [some (oR cDigest (growM l m).1)] := by
  refine VFun_own (rin := []) (n := 57) (rs := [.tmp 4, .tmp 5]) Try.func37 rfl rfl rfl rfl H_impl_GrowthOf ok_H_impl_GrowthOf (Nat.le_of_ble_eq_true rfl) (by kernel_rfl) ?_
  by_cases h1 : leavesOk l = true ∧ 0 ≤ m ∧ m ≤ l.length
  case neg =>
    rw [growM_no h1]
    by_cases hk : leavesOk l = true
    · have c1 : ((0 ≤ m ∧ m ≤ (l.length : Int)) ∧ (l.length : Int) ≤ 256) = False := eq_false fun hh => h1 ⟨hk, hh.1⟩
      simp only [go_sem, ↓reduceIte, reduceCtorEq, Nat.reduceAdd, Nat.reduceMul, Nat.reduceEqDiff, Nat.reduceSub, Nat.reduceLT, Nat.reduceLeDiff, Nat.reduceAnd, Nat.reduceShiftRight, Nat.reduceBEq, Nat.reduceBNe, Nat.reduceBneDiff, Nat.reduceBeqDiff, Int.reduceToNat, Int.reduceLE, Int.reduceLT, Int.reduceEq, hk, c1]
      exact h
    · have hk' : leavesOk l = false := by simpa using hk
      simp only [go_sem, ↓reduceIte, reduceCtorEq, Nat.reduceAdd, Nat.reduceMul, Nat.reduceEqDiff, Nat.reduceSub, Nat.reduceLT, Nat.reduceLeDiff, Nat.reduceAnd, Nat.reduceShiftRight, Nat.reduceBEq, Nat.reduceBNe, Nat.reduceBneDiff, Nat.reduceBeqDiff, Int.reduceToNat, Int.reduceLE, Int.reduceLT, Int.reduceEq, hk']
      exact h
  obtain ⟨hk, g1, g2⟩ := h1
  have hl := leavesOk_iff hk
  have c1 : ((0 ≤ m ∧ m ≤ (l.length : Int)) ∧ (l.length : Int) ≤ 256) = True := eq_true (by omega)
  by_cases h2 : m = 0
  · rw [growM_e hk g1 g2 (.inl h2)]
    simp only [go_sem, ↓reduceIte, reduceCtorEq, Nat.reduceAdd, Nat.reduceMul, Nat.reduceEqDiff, Nat.reduceSub, Nat.reduceLT, Nat.reduceLeDiff, Nat.reduceAnd, Nat.reduceShiftRight, Nat.reduceBEq, Nat.reduceBNe, Nat.reduceBneDiff, Nat.reduceBeqDiff, Int.reduceToNat, Int.reduceLE, Int.reduceLT, Int.reduceEq, hk, c1, eq_true h2]
    exact h
  by_cases h3 : m = l.length
  · rw [growM_e hk g1 g2 (.inr h3)]
    simp only [go_sem, ↓reduceIte, reduceCtorEq, Nat.reduceAdd, Nat.reduceMul, Nat.reduceEqDiff, Nat.reduceSub, Nat.reduceLT, Nat.reduceLeDiff, Nat.reduceAnd, Nat.reduceShiftRight, Nat.reduceBEq, Nat.reduceBNe, Nat.reduceBneDiff, Nat.reduceBeqDiff, Int.reduceToNat, Int.reduceLE, Int.reduceLT, Int.reduceEq, hk, c1, h2, eq_true h3]
    exact h
  obtain ⟨m, rfl⟩ := Int.eq_ofNat_of_zero_le g1
  have c4 : ((m : Int) ≤ (l.length : Int) ∧ (l.length : Int) ≤ 256) = True := eq_true (by omega)
  have d0 := fallI_len (lo := 0) (hi := l.length) (m := m) (by omega)
  have hin := fall_in 0 l.length m (by omega)
  obtain ⟨R, hR⟩ : ∃ R, (fallO 0 l.length m ++ fallF 0 l.length m).map (runM l) = R := ⟨_, rfl⟩
  rw [growM_s hk (by omega) (by omega), hR]
  simp only [go_sem, ↓reduceIte, reduceCtorEq, Nat.reduceAdd, Nat.reduceMul, Nat.reduceEqDiff, Nat.reduceSub, Nat.reduceLT, Nat.reduceLeDiff, Nat.reduceAnd, Nat.reduceShiftRight, Nat.reduceBEq, Nat.reduceBNe, Nat.reduceBneDiff, Nat.reduceBeqDiff, Int.reduceToNat, Int.reduceLE, Int.reduceLT, Int.reduceEq, hk, c4, h2, h3]
  refine ⟨h, by omega, by omega, ?_⟩
  obtain ⟨W, hW⟩ : ∃ W, W = fallO 0 l.length m ++ fallF 0 l.length m := ⟨_, rfl⟩
  have hrow : (oldI 0 l.length m).map cNode.enc ++ (newI 0 l.length m).map cNode.enc = (W.map nodeI).map cNode.enc := by rw [← List.map_append, nodes_eq, hW]
  have hlen : (oldI 0 l.length m).length + (newI 0 l.length m).length = (W.map nodeI).length := by rw [← List.length_append, nodes_eq, hW]
  have hWl : (W.map nodeI).length = W.length := List.length_map _
  have hWin : ∀ x ∈ W, x.1 < x.2 ∧ x.2 ≤ l.length := fun x hx => by
    rw [hW] at hx
    rcases List.mem_append.1 hx with hx | hx
    · have := hin.1 x hx; omega
    · have := hin.2.1 x hx; omega
  have hW256 : W.length ≤ 256 := by omega
  rw [← hW] at hR
  clear hin d0
  obtain ⟨O, hO⟩ : ∃ O : Nat → List Digest, ∀ i, O i = (W.take i).map (runM l) := ⟨_, fun _ => rfl⟩
  have hO0 : O 0 = [] := by rw [hO]; rfl
  simp only [hrow, hlen]
  generalize hV : W.map nodeI = V at hrow hlen hWl ⊢
  refine LoopV.go (H := H_impl_GrowthOf) ok_H_impl_GrowthOf (by kernel_rfl) (fun i : Nat => ⟨[(0, .x (.o (.c (.s (l.map cStr.enc))))), (8, .x (.o (.h (1, 100) 0 (O i).length (O i).length))), (38, .x (.o (.h (1, 101) 0 V.length V.length))), (39, sc (.int .i64 V.length)), (40, sc (.int .i64 i))], [((1, 100), .row 4 ((O i).map cDigest.enc)), ((1, 101), .row 2 (V.map cNode.enc))], 2⟩) (fun i => W.length - i) (fun i => i ≤ W.length) ?_ 0 (Nat.zero_le _) (by simp only [hO0]; rfl)
  intro i hi
  have ht : (O i).length = i := by rw [hO, List.length_map, List.length_take]; omega
  by_cases hlt : i < W.length
  · obtain ⟨⟨a, b⟩, hx⟩ : ∃ r, W[i]? = some r := ⟨_, List.getElem?_eq_getElem hlt⟩
    have hy : O (i + 1) = O i ++ [runM l (a, b)] := by rw [hO, hO, List.take_add_one, hx, List.map_append]; rfl
    have hVx : V[i]? = some ((a : Int), (b : Int)) := by rw [← hV, List.getElem?_map, hx]; rfl
    have hab := hWin (a, b) (List.mem_of_getElem? hx)
    dsimp only at hab
    have w1 : IntKind.i64.wrap ((i : Int) + 1) = ((i + 1 : Nat) : Int) := by rw [wrap64] <;> omega
    have c1 : ((i : Int) < (V.length : Int)) = True := eq_true (by omega)
    have c2 : (i < V.length) = True := eq_true (by omega)
    simp only [go_sem, ↓reduceIte, reduceCtorEq, Nat.reduceAdd, Nat.reduceMul, Nat.reduceEqDiff, Nat.reduceSub, Nat.reduceLT, Nat.reduceLeDiff, Nat.reduceAnd, Nat.reduceShiftRight, Nat.reduceBEq, Nat.reduceBNe, Nat.reduceBneDiff, Nat.reduceBeqDiff, Int.reduceToNat, Int.reduceLE, Int.reduceLT, Int.reduceEq, c1, c2, w1, hVx]
    exact ⟨by omega, runM_ok hl _ _, by omega, i + 1, by omega, by omega, by rw [hy, List.length_append, List.map_append]; rfl⟩
  · have c1 : ((i : Int) < (V.length : Int)) = False := eq_false (by omega)
    have htt : O i = R := by rw [hO, List.take_of_length_le (by omega), hR]
    simp only [go_sem, ↓reduceIte, reduceCtorEq, Nat.reduceAdd, Nat.reduceMul, Nat.reduceEqDiff, Nat.reduceSub, Nat.reduceLT, Nat.reduceLeDiff, Nat.reduceAnd, Nat.reduceShiftRight, Nat.reduceBEq, Nat.reduceBNe, Nat.reduceBneDiff, Nat.reduceBeqDiff, Int.reduceToNat, Int.reduceLE, Int.reduceLT, Int.reduceEq, c1, htt]
    rw [htt] at ht
    omega
theorem ok_impl_GrowthOf : OGrow.ok Try.prog 37 := FM.g2_ok o_impl_GrowthOf

end Go.Proofs.YtfccplibbdnkpaaW.V


