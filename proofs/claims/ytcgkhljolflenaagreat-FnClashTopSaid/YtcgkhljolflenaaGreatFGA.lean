/- The nodes of a growth: the old ones are the peaks. No condition but each theorem's own. -/
import Derived.Test.YtcgkhljolflenaaGreatFQT
namespace Go.Proofs.YtcgkhljolflenaaGreatW.V
open Go Go.Proofs
set_option linter.unusedSimpArgs false
set_option linter.unusedVariables false
set_option maxRecDepth 8000
set_option maxHeartbeats 4000000

set_option synthInstance.maxSize 1000

/-- The old and the new nodes of a growth from m, within lo to hi. -/
def fallO (lo hi m : Nat) : List (Nat × Nat) :=
  if hi ≤ m then [(lo, hi)] else if h : m ≤ lo then [] else fallO lo (lo + splitN (hi - lo)) m ++ fallO (lo + splitN (hi - lo)) hi m
termination_by hi - lo
decreasing_by
  · have := splitN_lt (n := hi - lo) (by omega); omega
  · have := splitN_pos (hi - lo); omega
def fallF (lo hi m : Nat) : List (Nat × Nat) :=
  if hi ≤ m then [] else if h : m ≤ lo then [(lo, hi)] else fallF lo (lo + splitN (hi - lo)) m ++ fallF (lo + splitN (hi - lo)) hi m
termination_by hi - lo
decreasing_by
  · have := splitN_lt (n := hi - lo) (by omega); omega
  · have := splitN_pos (hi - lo); omega
theorem fallO_old {lo hi m : Nat} (h : hi ≤ m) : fallO lo hi m = [(lo, hi)] := by rw [fallO, if_pos h]
theorem fallO_new {lo hi m : Nat} (h : ¬ hi ≤ m) (h2 : m ≤ lo) : fallO lo hi m = [] := by rw [fallO, if_neg h, dif_pos h2]
theorem fallO_mid {lo hi m : Nat} (h : ¬ hi ≤ m) (h2 : ¬ m ≤ lo) : fallO lo hi m = fallO lo (lo + splitN (hi - lo)) m ++ fallO (lo + splitN (hi - lo)) hi m := by
  rw [fallO, if_neg h, dif_neg h2]
theorem fallF_old {lo hi m : Nat} (h : hi ≤ m) : fallF lo hi m = [] := by rw [fallF, if_pos h]
theorem fallF_new {lo hi m : Nat} (h : ¬ hi ≤ m) (h2 : m ≤ lo) : fallF lo hi m = [(lo, hi)] := by rw [fallF, if_neg h, dif_pos h2]
theorem fallF_mid {lo hi m : Nat} (h : ¬ hi ≤ m) (h2 : ¬ m ≤ lo) : fallF lo hi m = fallF lo (lo + splitN (hi - lo)) m ++ fallF (lo + splitN (hi - lo)) hi m := by
  rw [fallF, if_neg h, dif_neg h2]
theorem fall_in (lo hi m : Nat) (hlt : lo < hi) : (∀ x ∈ fallO lo hi m, lo ≤ x.1 ∧ x.1 < x.2 ∧ x.2 ≤ hi) ∧ (∀ x ∈ fallF lo hi m, lo ≤ x.1 ∧ x.1 < x.2 ∧ x.2 ≤ hi) ∧ (fallO lo hi m).length + (fallF lo hi m).length ≤ hi - lo := by
  induction hd : hi - lo using Nat.strongRecOn generalizing lo hi with
  | _ n ih =>
    subst hd
    by_cases h : hi ≤ m
    · rw [fallO_old h, fallF_old h]
      exact ⟨by simp; omega, by simp, by simp; omega⟩
    by_cases h2 : m ≤ lo
    · rw [fallO_new h h2, fallF_new h h2]
      exact ⟨by simp, by simp; omega, by simp; omega⟩
    rw [fallO_mid h h2, fallF_mid h h2]
    have k1 := splitN_lt (n := hi - lo) (by omega)
    have k2 := splitN_pos (hi - lo)
    obtain ⟨a1, a2, a3⟩ := ih _ (by omega) lo (lo + splitN (hi - lo)) (by omega) rfl
    obtain ⟨b1, b2, b3⟩ := ih _ (by omega) (lo + splitN (hi - lo)) hi (by omega) rfl
    refine ⟨fun x hx => ?_, fun x hx => ?_, by simp only [List.length_append]; omega⟩
    · rcases List.mem_append.1 hx with h | h
      · have := a1 x h; omega
      · have := b1 x h; omega
    · rcases List.mem_append.1 hx with h | h
      · have := a2 x h; omega
      · have := b2 x h; omega

/-- The greatest power of two that is at most a number. -/
def halfN (n : Nat) : Nat := 2 ^ Nat.log2 n
theorem halfN_pos (n : Nat) : 1 ≤ halfN n := Nat.one_le_two_pow
theorem halfN_le {n : Nat} (h : 1 ≤ n) : halfN n ≤ n := Nat.log2_self_le (by omega)
theorem halfN_eq {n k j : Nat} (hk : k = 2 ^ j) (h1 : k ≤ n) (h2 : n < 2 * k) : halfN n = k := by
  have h3 : Nat.log2 n = j := (Nat.log2_eq_iff (by have := Nat.one_le_two_pow (n := j); omega)).2 ⟨by omega, by rw [Nat.pow_succ]; omega⟩
  rw [halfN, h3, hk]
def peaksN (at_ m : Nat) : List (Nat × Nat) := if h : at_ < m then (at_, at_ + halfN (m - at_)) :: peaksN (at_ + halfN (m - at_)) m else []
termination_by m - at_
decreasing_by have := halfN_pos (m - at_); omega
theorem peaksN_end {a m : Nat} (h : m ≤ a) : peaksN a m = [] := by rw [peaksN, dif_neg (by omega)]
theorem peaksN_go {a m : Nat} (h : a < m) : peaksN a m = (a, a + halfN (m - a)) :: peaksN (a + halfN (m - a)) m := by rw [peaksN, dif_pos h]
theorem split_pow {n : Nat} (h : 2 ≤ n) : ∃ j, splitN n = 2 ^ j ∧ splitN n < n ∧ n ≤ 2 * splitN n := by
  refine ⟨_, rfl, splitN_lt h, ?_⟩
  have := Nat.lt_log2_self (n := n - 1)
  unfold splitN
  rw [Nat.pow_succ] at this
  omega
theorem fallO_peaks (lo hi m : Nat) (h1 : lo < m) (h2 : m < hi) : fallO lo hi m = peaksN lo m := by
  induction hd : hi - lo using Nat.strongRecOn generalizing lo hi with
  | _ n ih =>
    subst hd
    obtain ⟨j, hj, k1, k2⟩ := split_pow (n := hi - lo) (by omega)
    have k3 := splitN_pos (hi - lo)
    rw [fallO_mid (by omega) (by omega)]
    by_cases h3 : m < lo + splitN (hi - lo)
    · rw [ih _ (by omega) lo _ h1 h3 rfl, fallO_new (by omega) (by omega), List.append_nil]
    · have e : halfN (m - lo) = splitN (hi - lo) := halfN_eq hj (by omega) (by omega)
      rw [fallO_old (by omega), peaksN_go h1, e, List.singleton_append]
      by_cases h4 : m = lo + splitN (hi - lo)
      · rw [fallO_new (by omega) (by omega), peaksN_end (by omega)]
      · rw [ih _ (by omega) _ hi (by omega) h2 rfl]

/-- The root of a run of leaves; the proof of a growth. -/
def runM (l : List ByteArray) (x : Nat × Nat) : Digest := rootM ((l.drop x.1).take (x.2 - x.1))
def peaksD (l : List ByteArray) : List Digest := (peaksN 0 l.length).map (runM l)
def restD (l : List ByteArray) (lo hi m : Nat) : List Digest := (fallF lo hi m).map (runM l)
def growN (l : List ByteArray) (m : Nat) : List Digest := if m = 0 ∨ m = l.length then [] else (fallO 0 l.length m ++ fallF 0 l.length m).map (runM l)
def growOk (l : List ByteArray) (m : Int) : Bool := leavesOk l && decide (0 ≤ m ∧ m ≤ l.length)
def growM (l : List ByteArray) (m : Int) : List Digest × Bool := if growOk l m then (growN l m.toNat, true) else ([], false)
theorem growN_0 (l : List ByteArray) {m : Nat} (h : m = 0 ∨ m = l.length) : growN l m = [] := if_pos h
theorem growN_s (l : List ByteArray) {m : Nat} (h : ¬ (m = 0 ∨ m = l.length)) : growN l m = (fallO 0 l.length m ++ fallF 0 l.length m).map (runM l) := if_neg h
theorem growN_p (l : List ByteArray) {m : Nat} (h : 0 < m) (h2 : m < l.length) : growN l m = (peaksN 0 m).map (runM l) ++ (fallF 0 l.length m).map (runM l) := by
  rw [growN_s l (by omega), fallO_peaks 0 l.length m h h2, List.map_append]

def H_spec_l3Digests : Hint := { fs := [], kp := [(0, [0, 1]), (1, [0, 1]), (2, [0, 1, 5]), (3, [0, 1, 5, 6]), (5, [0, 1, 5, 6]), (4, [0, 1, 5, 6]), (6, [1, 5]), (7, [1, 5, 7]), (9, [1, 5, 7]), (8, [1, 5, 7]), (10, [5])], an := [], own := true }
attribute [go_sem] H_spec_l3Digests
theorem ok_H_spec_l3Digests : H_spec_l3Digests.ok Tryz.prog := AllOk.okR .nil .nil mix
theorem o_l3Digests (xs ys : List Digest) (hx : xs.length ≤ 100000) (hy : ys.length ≤ 100000) : VFun Tryz.prog 50 [(eList cDigest).enc xs, (eList cDigest).enc ys] [] (oL 0 (xs ++ ys)) [some (oR cDigest (xs ++ ys))] := by
  refine VFun_own (rin := []) (n := 36) (rs := [.tmp 4]) Tryz.func50 rfl rfl rfl rfl H_spec_l3Digests ok_H_spec_l3Digests (Nat.le_of_ble_eq_true rfl) (by kernel_rfl) ?_
  simp only [go_sem, ↓reduceIte, reduceCtorEq, Nat.reduceAdd, Nat.reduceMul, Nat.reduceEqDiff, Nat.reduceSub, Nat.reduceLT, Nat.reduceLeDiff, Nat.reduceAnd, Nat.reduceShiftRight, Nat.reduceBEq, Nat.reduceBNe, Nat.reduceBneDiff, Nat.reduceBeqDiff, Int.reduceToNat, Int.reduceLE, Int.reduceLT, Int.reduceEq]
  refine LoopV.go (H := H_spec_l3Digests) ok_H_spec_l3Digests (by kernel_rfl) (fun i : Nat => ⟨[(0, .x (.o (.c (.s (xs.map cDigest.enc))))), (1, .x (.o (.c (.s (ys.map cDigest.enc))))), (5, .x (.o (.h (1, 100) 0 (xs.take i).length (xs.take i).length))), (6, sc (.int .i64 i))], [((1, 100), .row 4 ((xs.take i).map cDigest.enc))], 2⟩) (fun i => xs.length - i) (fun i => i ≤ xs.length) ?_ 0 (Nat.zero_le _)
  intro i hi
  have ht : (xs.take i).length = i := by rw [List.length_take]; omega
  by_cases hlt : i < xs.length
  · obtain ⟨x, hx⟩ : ∃ r, xs[i]? = some r := ⟨_, List.getElem?_eq_getElem hlt⟩
    have hy : xs.take (i + 1) = xs.take i ++ [x] := by rw [List.take_add_one, hx]; rfl
    have w1 : IntKind.i64.wrap ((i : Int) + 1) = ((i + 1 : Nat) : Int) := by rw [wrap64] <;> omega
    have c1 : ((i : Int) < (xs.length : Int)) = True := eq_true (by omega)
    simp only [go_sem, ↓reduceIte, reduceCtorEq, Nat.reduceAdd, Nat.reduceMul, Nat.reduceEqDiff, Nat.reduceSub, Nat.reduceLT, Nat.reduceLeDiff, Nat.reduceAnd, Nat.reduceShiftRight, Nat.reduceBEq, Nat.reduceBNe, Nat.reduceBneDiff, Nat.reduceBeqDiff, Int.reduceToNat, Int.reduceLE, Int.reduceLT, Int.reduceEq, hx, w1, c1]
    exact ⟨⟨by omega, by omega⟩, i + 1, hlt, by omega, by rw [hy, List.length_append, List.map_append]; rfl⟩
  · have c1 : ((i : Int) < (xs.length : Int)) = False := eq_false (by omega)
    have htt : xs.take i = xs := List.take_of_length_le (by omega)
    simp only [go_sem, ↓reduceIte, reduceCtorEq, Nat.reduceAdd, Nat.reduceMul, Nat.reduceEqDiff, Nat.reduceSub, Nat.reduceLT, Nat.reduceLeDiff, Nat.reduceAnd, Nat.reduceShiftRight, Nat.reduceBEq, Nat.reduceBNe, Nat.reduceBneDiff, Nat.reduceBeqDiff, Int.reduceToNat, Int.reduceLE, Int.reduceLT, Int.reduceEq, c1, htt]
    refine LoopV.go (H := H_spec_l3Digests) ok_H_spec_l3Digests (by kernel_rfl) (fun j : Nat => ⟨[(1, .x (.o (.c (.s (ys.map cDigest.enc))))), (5, .x (.o (.h (1, 100) 0 (xs ++ ys.take j).length (xs ++ ys.take j).length))), (7, sc (.int .i64 j))], [((1, 100), .row 4 ((xs ++ ys.take j).map cDigest.enc))], 2⟩) (fun j => ys.length - j) (fun j => j ≤ ys.length) ?_ 0 (Nat.zero_le _) (by simp [sc])
    intro j hj
    have ht : (xs ++ ys.take j).length = xs.length + j := by rw [List.length_append, List.length_take]; omega
    by_cases hlt : j < ys.length
    · obtain ⟨x, hx⟩ : ∃ r, ys[j]? = some r := ⟨_, List.getElem?_eq_getElem hlt⟩
      have hy2 : xs ++ ys.take (j + 1) = xs ++ ys.take j ++ [x] := by rw [List.take_add_one, hx, List.append_assoc]; rfl
      have w1 : IntKind.i64.wrap ((j : Int) + 1) = ((j + 1 : Nat) : Int) := by rw [wrap64] <;> omega
      have c1 : ((j : Int) < (ys.length : Int)) = True := eq_true (by omega)
      generalize xs ++ ys.take j = zs at ht hy2 ⊢
      simp only [go_sem, ↓reduceIte, reduceCtorEq, Nat.reduceAdd, Nat.reduceMul, Nat.reduceEqDiff, Nat.reduceSub, Nat.reduceLT, Nat.reduceLeDiff, Nat.reduceAnd, Nat.reduceShiftRight, Nat.reduceBEq, Nat.reduceBNe, Nat.reduceBneDiff, Nat.reduceBeqDiff, Int.reduceToNat, Int.reduceLE, Int.reduceLT, Int.reduceEq, hx, w1, c1]
      exact ⟨⟨by omega, by omega⟩, j + 1, hlt, by omega, by rw [hy2, show xs.length + (ys.take (j + 1)).length = zs.length + 1 by rw [List.length_take]; omega, List.map_append]; rfl⟩
    · have c1 : ((j : Int) < (ys.length : Int)) = False := eq_false (by omega)
      have htt : xs ++ ys.take j = xs ++ ys := by rw [List.take_of_length_le (by omega)]
      rw [htt]
      simp only [go_sem, ↓reduceIte, reduceCtorEq, Nat.reduceAdd, Nat.reduceMul, Nat.reduceEqDiff, Nat.reduceSub, Nat.reduceLT, Nat.reduceLeDiff, Nat.reduceAnd, Nat.reduceShiftRight, Nat.reduceBEq, Nat.reduceBNe, Nat.reduceBneDiff, Nat.reduceBeqDiff, Int.reduceToNat, Int.reduceLE, Int.reduceLT, Int.reduceEq, c1]
abbrev ODigests : FM := .g2 (eList cDigest) (eList cDigest) (fun xs ys => (oL 0 (xs ++ ys), [some (oR cDigest (xs ++ ys))])) (fun xs ys => xs.length ≤ 100000 ∧ ys.length ≤ 100000)
attribute [go_sem] ODigests
theorem ok_spec_l3Digests : ODigests.ok Tryz.prog 50 := FM.g2_ok fun xs ys h => o_l3Digests xs ys h.1 h.2

end Go.Proofs.YtcgkhljolflenaaGreatW.V

