/- Functions: the proofs of growths. No condition but each theorem's own. -/
import Derived.Test.YtcgkhljolflenaaGreatFGA
import Derived.Test.YtcgkhljolflenaaGreatFQN
namespace Go.Proofs.YtcgkhljolflenaaGreatW.V
open Go Go.Proofs
set_option linter.unusedSimpArgs false
set_option linter.unusedVariables false
set_option maxRecDepth 8000
set_option maxHeartbeats 4000000

set_option synthInstance.maxSize 1000

def H_spec_l2Half : Hint := { fs := [], kp := [(0, [0]), (1, [0]), (2, [0, 3]), (3, [0, 3]), (4, [3])], an := [] }
attribute [go_sem] H_spec_l2Half
theorem ok_H_spec_l2Half : H_spec_l2Half.ok Tryz.prog := AllOk.okR .nil .nil mix
theorem f_l2Half (m : Nat) (h : 1 ≤ m ∧ m ≤ 256) : VFun Tryz.prog 106 [(eInt .i64).enc m] [] ((eInt .i64).enc (halfN m : Nat)) [] := by
  refine VFun_pure (n := 11) (rs := [.tmp 2]) Tryz.func106 rfl rfl rfl rfl H_spec_l2Half ok_H_spec_l2Half _ _ (Nat.le_of_ble_eq_true rfl) (by kernel_rfl) ?_
  simp only [go_sem, ↓reduceIte, reduceCtorEq, Nat.reduceAdd, Nat.reduceMul, Nat.reduceEqDiff, Nat.reduceSub, Nat.reduceLT, Nat.reduceLeDiff, Nat.reduceAnd, Nat.reduceShiftRight, Nat.reduceBEq, Nat.reduceBNe, Nat.reduceBneDiff, Nat.reduceBeqDiff, Int.reduceToNat, Int.reduceLE, Int.reduceLT, Int.reduceEq]
  refine LoopV.go (H := H_spec_l2Half) ok_H_spec_l2Half (by kernel_rfl) (fun k : Nat => ⟨[(0, sc (.int .i64 m)), (3, sc (.int .i64 k))], [], 2⟩) (fun k => m - k) (fun k => (∃ j, k = 2 ^ j) ∧ 1 ≤ k ∧ k ≤ m) ?_ 1 ⟨⟨0, rfl⟩, by omega, by omega⟩
  rintro k ⟨⟨j, hj⟩, hk1, hk⟩
  have w1 : IntKind.i64.wrap (2 * (k : Int)) = ((2 * k : Nat) : Int) := by rw [wrap64] <;> omega
  by_cases hlt : 2 * k ≤ m
  · have c1 : (((2 * k : Nat) : Int) ≤ (m : Int)) = True := eq_true (by omega)
    simp only [go_sem, ↓reduceIte, reduceCtorEq, Nat.reduceAdd, Nat.reduceMul, Nat.reduceEqDiff, Nat.reduceSub, Nat.reduceLT, Nat.reduceLeDiff, Nat.reduceAnd, Nat.reduceShiftRight, Nat.reduceBEq, Nat.reduceBNe, Nat.reduceBneDiff, Nat.reduceBeqDiff, Int.reduceToNat, Int.reduceLE, Int.reduceLT, Int.reduceEq, c1, w1]
    exact ⟨2 * k, ⟨⟨j + 1, by rw [Nat.pow_succ]; omega⟩, by omega, by omega⟩, by omega, rfl⟩
  · have c1 : (((2 * k : Nat) : Int) ≤ (m : Int)) = False := eq_false (by omega)
    simp only [go_sem, ↓reduceIte, reduceCtorEq, Nat.reduceAdd, Nat.reduceMul, Nat.reduceEqDiff, Nat.reduceSub, Nat.reduceLT, Nat.reduceLeDiff, Nat.reduceAnd, Nat.reduceShiftRight, Nat.reduceBEq, Nat.reduceBNe, Nat.reduceBneDiff, Nat.reduceBeqDiff, Int.reduceToNat, Int.reduceLE, Int.reduceLT, Int.reduceEq, c1, w1]
    rw [halfN_eq hj hk (by omega)]
abbrev MHalf : FM := .f1 (eInt .i64) (eInt .i64).enc (fun n => (halfN n.toNat : Nat)) (fun n => 1 ≤ n ∧ n ≤ 256)
attribute [go_sem] MHalf
theorem ok_spec_l2Half : MHalf.ok Tryz.prog 106 := FM.f1_ok fun n h => by
  obtain ⟨m, rfl⟩ := Int.eq_ofNat_of_zero_le (show 0 ≤ n by omega)
  exact f_l2Half m (by omega)

theorem runM_ok {l : List ByteArray} (h : l.length ≤ 256 ∧ ∀ x ∈ l, x.size ≤ 40) (a b : Nat) : ((l.drop a).take b).length ≤ 256 ∧ ∀ x ∈ (l.drop a).take b, x.size ≤ 40 :=
  ⟨by rw [List.length_take, List.length_drop]; omega, fun x hx => h.2 x (List.mem_of_mem_drop (List.mem_of_mem_take hx))⟩
theorem halfN_in {a m : Nat} (h : a < m) : 1 ≤ halfN (m - a) ∧ a + halfN (m - a) ≤ m := by
  have h1 := halfN_pos (m - a)
  have h2 := halfN_le (n := m - a) (by omega)
  omega

abbrev OPeaks : FM := .g1 (eList cStr) (fun l => (oL 0 (peaksD l), [some (oR cDigest (peaksD l))])) (fun l => l.length ≤ 256 ∧ ∀ x ∈ l, x.size ≤ 40)
attribute [go_sem] OPeaks
def H_spec_TreePeaks : Hint := { fs := [(46, MRoot), (87, MLeavesOk), (106, MHalf)], kp := [(0, [0]), (1, [0]), (2, [0, 3]), (3, [3]), (4, [0, 3]), (5, [0, 3, 4]), (6, [0, 3, 4]), (7, [0, 3, 4, 5]), (8, [0, 3, 4, 5]), (9, [3])], an := [], own := true }
attribute [go_sem] H_spec_TreePeaks
theorem ok_H_spec_TreePeaks : H_spec_TreePeaks.ok Tryz.prog := AllOk.okR (.cons ok_l2Root (.cons ok_spec_LeavesOk (.cons ok_spec_l2Half .nil))) .nil mix
theorem o_TreePeaks (l : List ByteArray) (h : l.length ≤ 256 ∧ ∀ x ∈ l, x.size ≤ 40) : VFun Tryz.prog 104 [(eList cStr).enc l] [] (oL 0 (peaksD l)) [some (oR cDigest (peaksD l))] := by
  have hk : leavesOk l = true := by
    rw [leavesOk_good fun i x _ hx => by have := h.2 x (List.mem_of_getElem? hx); omega]
    exact decide_eq_true (by omega)
  refine VFun_own (rin := []) (n := 34) (rs := [.tmp 2]) Tryz.func104 rfl rfl rfl rfl H_spec_TreePeaks ok_H_spec_TreePeaks (Nat.le_of_ble_eq_true rfl) (by kernel_rfl) ?_
  simp only [go_sem, ↓reduceIte, reduceCtorEq, Nat.reduceAdd, Nat.reduceMul, Nat.reduceEqDiff, Nat.reduceSub, Nat.reduceLT, Nat.reduceLeDiff, Nat.reduceAnd, Nat.reduceShiftRight, Nat.reduceBEq, Nat.reduceBNe, Nat.reduceBneDiff, Nat.reduceBeqDiff, Int.reduceToNat, Int.reduceLE, Int.reduceLT, Int.reduceEq, hk]
  refine ⟨by omega, ?_⟩
  refine LoopV.go (H := H_spec_TreePeaks) ok_H_spec_TreePeaks (by kernel_rfl) (fun y : Nat × List Digest => ⟨[(0, .x (.o (.c (.s (l.map cStr.enc))))), (3, .x (.o (.h (1, 100) 0 y.2.length y.2.length))), (4, sc (.int .i64 y.1))], [((1, 100), .row 4 (y.2.map cDigest.enc))], 2⟩) (fun y => l.length - y.1) (fun y => y.1 ≤ l.length ∧ y.2.length ≤ y.1 ∧ y.2 ++ (peaksN y.1 l.length).map (runM l) = peaksD l) ?_ (0, []) ⟨Nat.zero_le _, Nat.le_refl _, rfl⟩
  rintro ⟨a, out⟩ ⟨j1, j2, j3⟩
  dsimp only at j1 j2 j3
  by_cases hlt : a < l.length
  · obtain ⟨k1, k2⟩ := halfN_in hlt
    rw [peaksN_go hlt] at j3
    have c1 : ((a : Int) < (l.length : Int)) = True := eq_true (by omega)
    have w1 : IntKind.i64.wrap ((l.length : Int) - (a : Int)) = ((l.length - a : Nat) : Int) := by rw [wrap64] <;> omega
    have w2 : IntKind.i64.wrap ((a : Int) + (halfN (l.length - a) : Int)) = ((a + halfN (l.length - a) : Nat) : Int) := by rw [wrap64] <;> omega
    have e : a + halfN (l.length - a) - a = halfN (l.length - a) := by omega
    simp only [go_sem, ↓reduceIte, reduceCtorEq, Nat.reduceAdd, Nat.reduceMul, Nat.reduceEqDiff, Nat.reduceSub, Nat.reduceLT, Nat.reduceLeDiff, Nat.reduceAnd, Nat.reduceShiftRight, Nat.reduceBEq, Nat.reduceBNe, Nat.reduceBneDiff, Nat.reduceBeqDiff, Int.reduceToNat, Int.reduceLE, Int.reduceLT, Int.reduceEq, c1, w1, w2]
    refine ⟨by omega, by omega, runM_ok h _ _, by omega, (a + halfN (l.length - a), out ++ [runM l (a, a + halfN (l.length - a))]), ⟨by dsimp only; omega, by simp; omega, ?_⟩, by dsimp only; omega, ?_⟩
    · rw [← j3, List.map_cons, List.append_assoc]; rfl
    · rw [List.length_append, List.map_append]; rfl
  · have c1 : ((a : Int) < (l.length : Int)) = False := eq_false (by omega)
    rw [peaksN_end (by omega), List.map_nil, List.append_nil] at j3
    simp only [go_sem, ↓reduceIte, reduceCtorEq, Nat.reduceAdd, Nat.reduceMul, Nat.reduceEqDiff, Nat.reduceSub, Nat.reduceLT, Nat.reduceLeDiff, Nat.reduceAnd, Nat.reduceShiftRight, Nat.reduceBEq, Nat.reduceBNe, Nat.reduceBneDiff, Nat.reduceBeqDiff, Int.reduceToNat, Int.reduceLE, Int.reduceLT, Int.reduceEq, c1]
    rw [j3]
    exact ⟨rfl, rfl⟩
theorem ok_spec_TreePeaks : OPeaks.ok Tryz.prog 104 := FM.g1_ok o_TreePeaks

theorem peaksN_in (a m : Nat) : ∀ x ∈ peaksN a m, x.2 ≤ m := by
  induction hd : m - a using Nat.strongRecOn generalizing a with
  | _ n ih =>
    subst hd
    by_cases h : a < m
    · obtain ⟨k1, k2⟩ := halfN_in h
      rw [peaksN_go h]
      intro x hx
      rcases List.mem_cons.1 hx with rfl | hx
      · exact k2
      · exact ih _ (by omega) _ rfl x hx
    · rw [peaksN_end (by omega)]
      intro x hx; cases hx
theorem peaksN_len (a m : Nat) : (peaksN a m).length ≤ m - a := by
  induction hd : m - a using Nat.strongRecOn generalizing a with
  | _ n ih =>
    subst hd
    by_cases h : a < m
    · obtain ⟨k1, k2⟩ := halfN_in h
      have := ih _ (by omega) (a + halfN (m - a)) rfl
      rw [peaksN_go h, List.length_cons]
      omega
    · rw [peaksN_end (by omega)]
      exact Nat.zero_le _
theorem peaksD_len (l : List ByteArray) : (peaksD l).length ≤ l.length := by
  rw [peaksD, List.length_map]
  exact peaksN_len 0 l.length
theorem runM_take (l : List ByteArray) {x : Nat × Nat} {m : Nat} (h : x.2 ≤ m) : runM (l.take m) x = runM l x := by
  unfold runM
  rw [List.drop_take, List.take_take, Nat.min_eq_left (by omega)]
def FM.g4 {A1 A2 A3 A4 : Type} (a : CE A1) (b : CE A2) (c : CE A3) (d : CE A4) (r : A1 → A2 → A3 → A4 → E × List (Option Root)) (pre : A1 → A2 → A3 → A4 → Prop) : FM := ⟨[], fun args rin => match args, rin with
  | [e1, e2, e3, e4], [] => match a.dec e1, b.dec e2, c.dec e3, d.dec e4 with
    | some x, some y, some z, some u => some ((r x y z u).1, (r x y z u).2, pre x y z u)
    | _, _, _, _ => none
  | _, _ => none⟩
theorem FM.g4_ok {P : Program} {g : FuncId} {A1 A2 A3 A4 : Type} {a : CE A1} {b : CE A2} {c : CE A3} {d : CE A4} {r : A1 → A2 → A3 → A4 → E × List (Option Root)} {pre : A1 → A2 → A3 → A4 → Prop} (h : ∀ x y z u, pre x y z u → VFun P g [a.enc x, b.enc y, c.enc z, d.enc u] [] (r x y z u).1 (r x y z u).2) : (FM.g4 a b c d r pre).ok P g := by
  intro args rin res rout p hm hp
  simp only [FM.g4] at hm
  split at hm
  · split at hm
    · rename_i hx hy hz hu; cases hm; exact (h _ _ _ _ hp).weaken (.cons (a.ok _ _ hx) (.cons (b.ok _ _ hy) (.cons (c.ok _ _ hz) (.cons (d.ok _ _ hu) .nil))))
    · cases hm
  · cases hm
attribute [go_sem] FM.g4

theorem restD_0 {l : List ByteArray} {lo hi m : Nat} (h : hi ≤ m) : restD l lo hi m = [] := by rw [restD, fallF_old h]; rfl
theorem restD_1 {l : List ByteArray} {lo hi m : Nat} (h : ¬ hi ≤ m) (h2 : m ≤ lo) : restD l lo hi m = [runM l (lo, hi)] := by rw [restD, fallF_new h h2]; rfl
theorem restD_s {l : List ByteArray} {lo hi m : Nat} (h : ¬ hi ≤ m) (h2 : ¬ m ≤ lo) : restD l lo hi m = restD l lo (lo + splitN (hi - lo)) m ++ restD l (lo + splitN (hi - lo)) hi m := by
  rw [restD, fallF_mid h h2, List.map_append]; rfl
theorem restD_len {l : List ByteArray} {lo hi m : Nat} (h : lo < hi) : (restD l lo hi m).length ≤ hi - lo := by
  rw [restD, List.length_map]
  have := (fall_in lo hi m h).2.2
  omega

abbrev ORestN (N : Nat) : FM := .g4 (eList cStr) (eInt .i64) (eInt .i64) (eInt .i64) (fun l lo hi m => (oL 0 (restD l lo.toNat hi.toNat m.toNat), [some (oR cDigest (restD l lo.toNat hi.toNat m.toNat))])) (fun l lo hi m => hi.toNat - lo.toNat < N ∧ (l.length ≤ 256 ∧ ∀ x ∈ l, x.size ≤ 40) ∧ 0 ≤ lo ∧ lo < hi ∧ hi ≤ l.length ∧ 0 ≤ m)
attribute [go_sem] ORestN
def H_spec_l3RestRoots (N : Nat) : Hint := { fs := [(45, MSplit), (46, MRoot), (50, ODigests), (105, (ORestN N))], kp := [(0, [0, 1, 2, 3]), (1, [0, 1, 2, 3]), (2, []), (3, [0, 1, 2, 3]), (4, [0, 1, 2]), (5, [0, 1, 2, 3]), (6, [0, 1, 2, 3, 9])], an := [], own := true }
attribute [go_sem] H_spec_l3RestRoots
theorem ok_H_spec_l3RestRoots (N : Nat) (ih : (ORestN N).ok Tryz.prog 105) : (H_spec_l3RestRoots N).ok Tryz.prog := AllOk.okR (.cons ok_spec_TreeSplit (.cons ok_l2Root (.cons ok_spec_l3Digests (.cons ih .nil)))) .nil mix
theorem o_l3RestRoots : ∀ (N : Nat) (l : List ByteArray) (lo hi m : Int), (hi.toNat - lo.toNat < N ∧ (l.length ≤ 256 ∧ ∀ x ∈ l, x.size ≤ 40) ∧ 0 ≤ lo ∧ lo < hi ∧ hi ≤ l.length ∧ 0 ≤ m) → VFun Tryz.prog 105 [(eList cStr).enc l, (eInt .i64).enc lo, (eInt .i64).enc hi, (eInt .i64).enc m] [] (oL 0 (restD l lo.toNat hi.toNat m.toNat)) [some (oR cDigest (restD l lo.toNat hi.toNat m.toNat))]
  | 0, l, lo, hi, m, h => absurd h.1 (by omega)
  | N + 1, l, lo, hi, m, h => by
    have ih : (ORestN N).ok Tryz.prog 105 := FM.g4_ok fun l lo hi m h => o_l3RestRoots N l lo hi m h
    obtain ⟨h0, hl, h1, h2, h3, h4⟩ := h
    obtain ⟨lo, rfl⟩ := Int.eq_ofNat_of_zero_le h1
    obtain ⟨hi, rfl⟩ := Int.eq_ofNat_of_zero_le (show 0 ≤ hi by omega)
    obtain ⟨m, rfl⟩ := Int.eq_ofNat_of_zero_le h4
    simp only [Int.toNat_natCast] at h0 ⊢
    have hlo : (lo : Int) < hi := h2
    have w1 : IntKind.i64.wrap ((hi : Int) - (lo : Int)) = ((hi - lo : Nat) : Int) := by rw [wrap64] <;> omega
    refine VFun_own (rin := []) (n := 40) (rs := [.tmp 8]) Tryz.func105 rfl rfl rfl rfl (H_spec_l3RestRoots N) (ok_H_spec_l3RestRoots N ih) (Nat.le_of_ble_eq_true rfl) (by kernel_rfl) ?_
    by_cases c1 : (hi : Int) ≤ m
    · rw [restD_0 (by omega)]
      simp only [go_sem, ↓reduceIte, reduceCtorEq, Nat.reduceAdd, Nat.reduceMul, Nat.reduceEqDiff, Nat.reduceSub, Nat.reduceLT, Nat.reduceLeDiff, Nat.reduceAnd, Nat.reduceShiftRight, Nat.reduceBEq, Nat.reduceBNe, Nat.reduceBneDiff, Nat.reduceBeqDiff, Int.reduceToNat, Int.reduceLE, Int.reduceLT, Int.reduceEq, c1]
    by_cases c2 : (m : Int) ≤ lo
    · rw [restD_1 (by omega) (by omega)]
      simp only [go_sem, ↓reduceIte, reduceCtorEq, Nat.reduceAdd, Nat.reduceMul, Nat.reduceEqDiff, Nat.reduceSub, Nat.reduceLT, Nat.reduceLeDiff, Nat.reduceAnd, Nat.reduceShiftRight, Nat.reduceBEq, Nat.reduceBNe, Nat.reduceBneDiff, Nat.reduceBeqDiff, Int.reduceToNat, Int.reduceLE, Int.reduceLT, Int.reduceEq, c1, c2]
      exact ⟨⟨by omega, by omega⟩, runM_ok hl _ _, rfl⟩
    · have hs : splitM ((hi - lo : Nat) : Int) = (splitN (hi - lo) : Nat) := splitM_in (by omega) (by omega)
      have k1 := splitN_lt (n := hi - lo) (by omega)
      have k2 := splitN_pos (hi - lo)
      have w2 : IntKind.i64.wrap ((lo : Int) + (splitN (hi - lo) : Nat)) = ((lo + splitN (hi - lo) : Nat) : Int) := by rw [wrap64] <;> omega
      rw [restD_s (by omega) (by omega)]
      have d1 := restD_len (l := l) (lo := lo) (hi := lo + splitN (hi - lo)) (m := m) (by omega)
      have d2 := restD_len (l := l) (lo := lo + splitN (hi - lo)) (hi := hi) (m := m) (by omega)
      simp only [go_sem, ↓reduceIte, reduceCtorEq, Nat.reduceAdd, Nat.reduceMul, Nat.reduceEqDiff, Nat.reduceSub, Nat.reduceLT, Nat.reduceLeDiff, Nat.reduceAnd, Nat.reduceShiftRight, Nat.reduceBEq, Nat.reduceBNe, Nat.reduceBneDiff, Nat.reduceBeqDiff, Int.reduceToNat, Int.reduceLE, Int.reduceLT, Int.reduceEq, c1, c2, w1, hs, w2]
      exact ⟨⟨by omega, hl, by omega, by omega⟩, ⟨by omega, hl, by omega, by omega⟩, by omega, by omega⟩
abbrev ORest : FM := .g4 (eList cStr) (eInt .i64) (eInt .i64) (eInt .i64) (fun l lo hi m => (oL 0 (restD l lo.toNat hi.toNat m.toNat), [some (oR cDigest (restD l lo.toNat hi.toNat m.toNat))])) (fun l lo hi m => (l.length ≤ 256 ∧ ∀ x ∈ l, x.size ≤ 40) ∧ 0 ≤ lo ∧ lo < hi ∧ hi ≤ l.length ∧ 0 ≤ m)
attribute [go_sem] ORest
theorem ok_spec_l3RestRoots : ORest.ok Tryz.prog 105 := FM.g4_ok fun l lo hi m h => o_l3RestRoots (hi.toNat - lo.toNat + 1) l lo hi m ⟨by omega, h⟩

abbrev MSizes : FM := .f2 (eInt .i64) (eInt .i64) eBool.enc (fun m n => decide ((0 ≤ m ∧ m ≤ n) ∧ n ≤ 256)) (fun _ _ => True)
attribute [go_sem] MSizes

def H_spec_l3Sizes : Hint := { fs := [(89, M166)], kp := [(0, [0, 1]), (1, [0, 1])], an := [] }
attribute [go_sem] H_spec_l3Sizes
theorem ok_H_spec_l3Sizes : H_spec_l3Sizes.ok Tryz.prog := AllOk.okR (.cons m166 .nil) .nil mix
theorem f_l3Sizes (m n : Int) : VFun Tryz.prog 64 [(eInt .i64).enc m, (eInt .i64).enc n] [] (eBool.enc (decide ((0 ≤ m ∧ m ≤ n) ∧ n ≤ 256))) [] := by
  refine VFun_pure (n := 12) (rs := [.tmp 4]) Tryz.func64 rfl rfl rfl rfl H_spec_l3Sizes ok_H_spec_l3Sizes _ _ (Nat.le_of_ble_eq_true rfl) (by kernel_rfl) ?_
  simp only [go_sem, ↓reduceIte, reduceCtorEq, Nat.reduceAdd, Nat.reduceMul, Nat.reduceEqDiff, Nat.reduceSub, Nat.reduceLT, Nat.reduceLeDiff, Nat.reduceAnd, Nat.reduceShiftRight, Nat.reduceBEq, Nat.reduceBNe, Nat.reduceBneDiff, Nat.reduceBeqDiff, Int.reduceToNat, Int.reduceLE, Int.reduceLT, Int.reduceEq]
  (repeat' refine ite_intro (fun _ => ?_) fun _ => ?_) <;> simp_all <;> omega
theorem ok_spec_l3Sizes : MSizes.ok Tryz.prog 64 := FM.f2_ok fun m n _ => f_l3Sizes m n

def H_impl_mayGrow : Hint := { fs := [(96, M166)], kp := [(0, [0, 1]), (1, [0, 1])], an := [] }
attribute [go_sem] H_impl_mayGrow
theorem ok_H_impl_mayGrow : H_impl_mayGrow.ok Tryz.prog := AllOk.okR (.cons m180 .nil) .nil mix
theorem f_mayGrow (m n : Int) : VFun Tryz.prog 53 [(eInt .i64).enc m, (eInt .i64).enc n] [] (eBool.enc (decide ((0 ≤ m ∧ m ≤ n) ∧ n ≤ 256))) [] := by
  refine VFun_pure (n := 12) (rs := [.tmp 4]) Tryz.func53 rfl rfl rfl rfl H_impl_mayGrow ok_H_impl_mayGrow _ _ (Nat.le_of_ble_eq_true rfl) (by kernel_rfl) ?_
  simp only [go_sem, ↓reduceIte, reduceCtorEq, Nat.reduceAdd, Nat.reduceMul, Nat.reduceEqDiff, Nat.reduceSub, Nat.reduceLT, Nat.reduceLeDiff, Nat.reduceAnd, Nat.reduceShiftRight, Nat.reduceBEq, Nat.reduceBNe, Nat.reduceBneDiff, Nat.reduceBeqDiff, Int.reduceToNat, Int.reduceLE, Int.reduceLT, Int.reduceEq]
  (repeat' refine ite_intro (fun _ => ?_) fun _ => ?_) <;> simp_all <;> omega
theorem ok_impl_mayGrow : MSizes.ok Tryz.prog 53 := FM.f2_ok fun m n _ => f_mayGrow m n

abbrev oGrow (r : List Digest × Bool) : E := .t [.o (.h (0, 0) 0 r.1.length r.1.length), .o (.c (.v (.bool r.2)))]
attribute [go_sem] oGrow
abbrev OGrow : FM := .g2 (eList cStr) (eInt .i64) (fun l m => (oGrow (growM l m), [some (oR cDigest (growM l m).1)])) (fun l _ => l.length ≤ 1048576)
attribute [go_sem] OGrow
theorem growM_no {l : List ByteArray} {m : Int} (h : ¬ (leavesOk l = true ∧ 0 ≤ m ∧ m ≤ l.length)) : growM l m = ([], false) := by
  rw [growM, if_neg]
  unfold growOk
  intro hh
  simp only [Bool.and_eq_true, decide_eq_true_eq] at hh
  exact h hh
theorem growM_e {l : List ByteArray} {m : Int} (h : leavesOk l = true) (h1 : 0 ≤ m) (h2 : m ≤ l.length) (h3 : m = 0 ∨ m = l.length) : growM l m = ([], true) := by
  rw [growM, if_pos (by unfold growOk; simp [h, h1, h2]), growN_0 l (by omega)]
theorem growM_s {l : List ByteArray} {m : Nat} (h : leavesOk l = true) (h1 : 0 < m) (h2 : m < l.length) : growM l m = ((fallO 0 l.length m ++ fallF 0 l.length m).map (runM l), true) := by
  rw [growM, if_pos (by unfold growOk; simp [h]; omega), Int.toNat_natCast, growN_s l (by omega)]
theorem growM_p {l : List ByteArray} {m : Nat} (h : leavesOk l = true) (h1 : 0 < m) (h2 : m < l.length) : growM l m = (peaksD (l.take m) ++ restD l 0 l.length m, true) := by
  rw [growM, if_pos (by unfold growOk; simp [h]; omega), Int.toNat_natCast, growN_p l h1 h2]
  have e : (l.take m).length = m := by rw [List.length_take]; omega
  have e2 : (peaksN 0 m).map (runM l) = peaksD (l.take m) := by
    rw [peaksD, e]
    exact List.map_congr_left fun x hx => (runM_take l (peaksN_in 0 m x hx)).symm
  rw [e2]; rfl

abbrev ODigCopy : FM := .g1 (eList cDigest) (fun xs => (oL 0 xs, [some (oR cDigest xs)])) (fun xs => xs.length ≤ 1100000)
attribute [go_sem] ODigCopy

def H_spec_GrowthOf : Hint := { fs := [(50, ODigests), (64, MSizes), (87, MLeavesOk), (104, OPeaks), (105, ORest)], kp := [(0, [0, 1]), (1, [0, 1]), (2, []), (3, [0, 1]), (4, []), (5, [0, 1])], an := [], own := true }
attribute [go_sem] H_spec_GrowthOf
theorem ok_H_spec_GrowthOf : H_spec_GrowthOf.ok Tryz.prog := AllOk.okR (.cons ok_spec_l3Digests (.cons ok_spec_l3Sizes (.cons ok_spec_LeavesOk (.cons ok_spec_TreePeaks (.cons ok_spec_l3RestRoots .nil))))) .nil mix
theorem o_spec_GrowthOf (l : List ByteArray) (m : Int) (h : l.length ≤ 1048576) : VFun Tryz.prog 88 [(eList cStr).enc l, (eInt .i64).enc m] [] (oGrow (growM l m)) [some (oR cDigest (growM l m).1)] := by
  refine VFun_own (rin := []) (n := 36) (rs := [.tmp 4, .tmp 5]) Tryz.func88 rfl rfl rfl rfl H_spec_GrowthOf ok_H_spec_GrowthOf (Nat.le_of_ble_eq_true rfl) (by kernel_rfl) ?_
  by_cases h1 : leavesOk l = true ∧ 0 ≤ m ∧ m ≤ l.length
  case neg =>
    rw [growM_no h1]
    simp only [go_sem, ↓reduceIte, reduceCtorEq, Nat.reduceAdd, Nat.reduceMul, Nat.reduceEqDiff, Nat.reduceSub, Nat.reduceLT, Nat.reduceLeDiff, Nat.reduceAnd, Nat.reduceShiftRight, Nat.reduceBEq, Nat.reduceBNe, Nat.reduceBneDiff, Nat.reduceBeqDiff, Int.reduceToNat, Int.reduceLE, Int.reduceLT, Int.reduceEq]
    exact ⟨h, ite_intro (fun hk => ite_intro (fun _ => trivial) fun hn => absurd ⟨hk, by have := Classical.not_not.1 hn; omega⟩ h1) fun _ => trivial⟩
  obtain ⟨hk, g1, g2⟩ := h1
  have hl := leavesOk_iff hk
  have c1 : ((0 ≤ m ∧ m ≤ (l.length : Int)) ∧ (l.length : Int) ≤ 256) = True := eq_true (by omega)
  by_cases h2 : m = 0 ∨ m = l.length
  · rw [growM_e hk g1 g2 h2]
    simp only [go_sem, ↓reduceIte, reduceCtorEq, Nat.reduceAdd, Nat.reduceMul, Nat.reduceEqDiff, Nat.reduceSub, Nat.reduceLT, Nat.reduceLeDiff, Nat.reduceAnd, Nat.reduceShiftRight, Nat.reduceBEq, Nat.reduceBNe, Nat.reduceBneDiff, Nat.reduceBeqDiff, Int.reduceToNat, Int.reduceLE, Int.reduceLT, Int.reduceEq, hk, c1]
    exact ⟨h, ite_intro (fun a => ite_intro (fun _ => trivial) fun b => absurd h2 (by omega)) fun _ => trivial⟩
  · obtain ⟨m, rfl⟩ := Int.eq_ofNat_of_zero_le g1
    have c2 : ((m : Int) = 0) = False := eq_false (by omega)
    have c3 : ((m : Int) = (l.length : Int)) = False := eq_false (by omega)
    have c4 : ((m : Int) ≤ (l.length : Int) ∧ (l.length : Int) ≤ 256) = True := eq_true (by omega)
    have d1 := peaksD_len (l.take m)
    have d2 := restD_len (l := l) (lo := 0) (hi := l.length) (m := m) (by omega)
    have e : (l.take m).length = m := by rw [List.length_take]; omega
    rw [growM_p hk (by omega) (by omega)]
    simp only [go_sem, ↓reduceIte, reduceCtorEq, Nat.reduceAdd, Nat.reduceMul, Nat.reduceEqDiff, Nat.reduceSub, Nat.reduceLT, Nat.reduceLeDiff, Nat.reduceAnd, Nat.reduceShiftRight, Nat.reduceBEq, Nat.reduceBNe, Nat.reduceBneDiff, Nat.reduceBeqDiff, Int.reduceToNat, Int.reduceLE, Int.reduceLT, Int.reduceEq, hk, c4, c2, c3]
    exact ⟨h, by omega, ⟨by omega, fun x hx => hl.2 x (List.mem_of_mem_take hx)⟩, ⟨hl, by omega, by omega⟩, by omega, by omega⟩
theorem ok_spec_GrowthOf : OGrow.ok Tryz.prog 88 := FM.g2_ok o_spec_GrowthOf

/-- Nodes with numbers of the program. -/
def nodeI (x : Nat × Nat) : Int × Int := ((x.1 : Int), (x.2 : Int))
abbrev nodes2 (xs ys : List (Int × Int)) : E := .t [.o (.h (0, 0) 0 xs.length xs.length), .o (.h (0, 1) 0 ys.length ys.length)]
abbrev nodesR (xs ys : List (Int × Int)) : List (Option Root) := [some (oR cNode xs), some (oR cNode ys)]
attribute [go_sem] nodes2 nodesR
def oldI (lo hi m : Nat) : List (Int × Int) := (fallO lo hi m).map nodeI
def newI (lo hi m : Nat) : List (Int × Int) := (fallF lo hi m).map nodeI
/-- What falls of a node: into lists of one's own, or into none. -/
def FM.fallN (N : Nat) : FM := ⟨[2, 3], fun args rin => match args, rin with
  | [e1, e2, .x (.o (.h (0, 0) 0 n1 m1)), .x (.o (.h (0, 1) 0 n2 m2))], [.row 2 rows, .row 2 rowt] => match (CE.st cNode).dec e1, (eInt .i64).dec e2, mapO cNode.dec rows, mapO cNode.dec rowt with
    | some x, some m, some xs, some ys => some (nodes2 (xs ++ oldI x.1.toNat x.2.toNat m.toNat) (ys ++ newI x.1.toNat x.2.toNat m.toNat), nodesR (xs ++ oldI x.1.toNat x.2.toNat m.toNat) (ys ++ newI x.1.toNat x.2.toNat m.toNat),
        (n1 = xs.length ∧ m1 = xs.length ∧ n2 = ys.length ∧ m2 = ys.length ∧ rows = xs.map cNode.enc ∧ rowt = ys.map cNode.enc) ∧ x.2.toNat - x.1.toNat < N ∧ (0 ≤ x.1 ∧ x.1 < x.2 ∧ x.2 ≤ 256) ∧ 0 ≤ m ∧ xs.length + (x.2.toNat - x.1.toNat) ≤ 1000 ∧ ys.length + (x.2.toNat - x.1.toNat) ≤ 1000)
    | _, _, _, _ => none
  | [e1, e2, .x (.o (.c (.v (.slice none 0 0)))), .x (.o (.c (.v (.slice none 0 0))))], [] => match (CE.st cNode).dec e1, (eInt .i64).dec e2 with
    | some x, some m => some (nodes2 (oldI x.1.toNat x.2.toNat m.toNat) (newI x.1.toNat x.2.toNat m.toNat), nodesR (oldI x.1.toNat x.2.toNat m.toNat) (newI x.1.toNat x.2.toNat m.toNat), x.2.toNat - x.1.toNat < N ∧ (0 ≤ x.1 ∧ x.1 < x.2 ∧ x.2 ≤ 256) ∧ 0 ≤ m)
    | _, _ => none
  | _, _ => none⟩
attribute [go_sem] FM.fallN
theorem oldI_0 {lo hi m : Nat} (h : hi ≤ m) : oldI lo hi m = [((lo : Int), (hi : Int))] := by rw [oldI, fallO_old h]; rfl
theorem newI_0 {lo hi m : Nat} (h : hi ≤ m) : newI lo hi m = [] := by rw [newI, fallF_old h]; rfl
theorem oldI_1 {lo hi m : Nat} (h : ¬ hi ≤ m) (h2 : m ≤ lo) : oldI lo hi m = [] := by rw [oldI, fallO_new h h2]; rfl
theorem newI_1 {lo hi m : Nat} (h : ¬ hi ≤ m) (h2 : m ≤ lo) : newI lo hi m = [((lo : Int), (hi : Int))] := by rw [newI, fallF_new h h2]; rfl
theorem oldI_s {lo hi m : Nat} (h : ¬ hi ≤ m) (h2 : ¬ m ≤ lo) : oldI lo hi m = oldI lo (lo + splitN (hi - lo)) m ++ oldI (lo + splitN (hi - lo)) hi m := by
  rw [oldI, fallO_mid h h2, List.map_append]; rfl
theorem newI_s {lo hi m : Nat} (h : ¬ hi ≤ m) (h2 : ¬ m ≤ lo) : newI lo hi m = newI lo (lo + splitN (hi - lo)) m ++ newI (lo + splitN (hi - lo)) hi m := by
  rw [newI, fallF_mid h h2, List.map_append]; rfl
theorem fallI_len {lo hi m : Nat} (h : lo < hi) : (oldI lo hi m).length + (newI lo hi m).length ≤ hi - lo := by
  rw [oldI, newI, List.length_map, List.length_map]
  exact (fall_in lo hi m h).2.2

def H_impl_fall (N : Nat) : Hint := { fs := [(59, MHalves), (107, (FM.fallN N))], kp := [(0, [0, 1, 2, 3]), (1, [1, 2, 3, 4]), (2, [2, 3, 4]), (3, [1, 2, 3, 4]), (4, [2, 3, 4]), (5, [1, 2, 3, 4]), (6, [1, 2, 3, 10, 11]), (7, [1, 2, 3, 11])], an := [], own := true, nl := [(1, [(2, 2), (3, 2)])] }
attribute [go_sem] H_impl_fall
theorem ok_H_impl_fall (N : Nat) (ih : (FM.fallN N).ok Tryz.prog 107) : (H_impl_fall N).ok Tryz.prog := AllOk.okR (.cons ok_impl_node_halves (.cons ih .nil)) .nil mix
theorem f_fall (N : Nat) (ih : (FM.fallN N).ok Tryz.prog 107) (lo hi m : Nat) (xs ys : List (Int × Int)) (h0 : hi - lo < N + 1) (h1 : lo < hi) (h2 : hi ≤ 256) (hx : xs.length + (hi - lo) ≤ 1000) (hy : ys.length + (hi - lo) ≤ 1000) : VFun Tryz.prog 107 [(CE.st cNode).enc ((lo : Int), (hi : Int)), (eInt .i64).enc m, oL 0 xs, oL 1 ys] [some (oR cNode xs), some (oR cNode ys)] (nodes2 (xs ++ oldI lo hi m) (ys ++ newI lo hi m)) (nodesR (xs ++ oldI lo hi m) (ys ++ newI lo hi m)) := by
  refine VFun_own (rin := [oR cNode xs, oR cNode ys]) (n := 52) (rs := [.tmp 8, .tmp 9]) Tryz.func107 rfl rfl rfl rfl (H_impl_fall N) (ok_H_impl_fall N ih) (Nat.le_of_ble_eq_true rfl) (by kernel_rfl) ?_
  by_cases c1 : (hi : Int) ≤ m
  · rw [oldI_0 (by omega), newI_0 (by omega)]
    simp only [go_sem, ↓reduceIte, reduceCtorEq, Nat.reduceAdd, Nat.reduceMul, Nat.reduceEqDiff, Nat.reduceSub, Nat.reduceLT, Nat.reduceLeDiff, Nat.reduceAnd, Nat.reduceShiftRight, Nat.reduceBEq, Nat.reduceBNe, Nat.reduceBneDiff, Nat.reduceBeqDiff, Int.reduceToNat, Int.reduceLE, Int.reduceLT, Int.reduceEq, c1]
    exact ⟨by omega, by rw [List.map_append]; rfl⟩
  by_cases c2 : (m : Int) ≤ lo
  · rw [oldI_1 (by omega) (by omega), newI_1 (by omega) (by omega)]
    simp only [go_sem, ↓reduceIte, reduceCtorEq, Nat.reduceAdd, Nat.reduceMul, Nat.reduceEqDiff, Nat.reduceSub, Nat.reduceLT, Nat.reduceLeDiff, Nat.reduceAnd, Nat.reduceShiftRight, Nat.reduceBEq, Nat.reduceBNe, Nat.reduceBneDiff, Nat.reduceBeqDiff, Int.reduceToNat, Int.reduceLE, Int.reduceLT, Int.reduceEq, c1, c2]
    exact ⟨by omega, by rw [List.map_append]; rfl⟩
  have hs : splitM ((hi : Int) - (lo : Int)) = (splitN (hi - lo) : Nat) := by
    rw [show (hi : Int) - (lo : Int) = ((hi - lo : Nat) : Int) by omega]
    exact splitM_in (by omega) (by omega)
  have k1 := splitN_lt (n := hi - lo) (by omega)
  have k2 := splitN_pos (hi - lo)
  have hh : halvesM ((lo : Int), (hi : Int)) = (((lo : Int), ((lo + splitN (hi - lo) : Nat) : Int)), (((lo + splitN (hi - lo) : Nat) : Int), (hi : Int))) := by
    unfold halvesM
    dsimp only
    rw [hs]; rfl
  have l1 := fallI_len (lo := lo) (hi := lo + splitN (hi - lo)) (m := m) (by omega)
  rw [oldI_s (by omega) (by omega), newI_s (by omega) (by omega), ← List.append_assoc, ← List.append_assoc]
  simp only [go_sem, ↓reduceIte, reduceCtorEq, Nat.reduceAdd, Nat.reduceMul, Nat.reduceEqDiff, Nat.reduceSub, Nat.reduceLT, Nat.reduceLeDiff, Nat.reduceAnd, Nat.reduceShiftRight, Nat.reduceBEq, Nat.reduceBNe, Nat.reduceBneDiff, Nat.reduceBeqDiff, Int.reduceToNat, Int.reduceLE, Int.reduceLT, Int.reduceEq, c1, c2, hh]
  exact ⟨by omega, ⟨by omega, by omega, by omega, by omega⟩, by omega, by omega, by omega, by omega⟩
theorem f_fallNil (N : Nat) (ih : (FM.fallN N).ok Tryz.prog 107) (lo hi m : Nat) (h0 : hi - lo < N + 1) (h1 : lo < hi) (h2 : hi ≤ 256) : VFun Tryz.prog 107 [(CE.st cNode).enc ((lo : Int), (hi : Int)), (eInt .i64).enc m, .x (.o (.c (.v (.slice none 0 0)))), .x (.o (.c (.v (.slice none 0 0))))] [] (nodes2 (oldI lo hi m) (newI lo hi m)) (nodesR (oldI lo hi m) (newI lo hi m)) := by
  refine VFun_own (rin := []) (n := 52) (rs := [.tmp 8, .tmp 9]) Tryz.func107 rfl rfl rfl rfl (H_impl_fall N) (ok_H_impl_fall N ih) (Nat.le_of_ble_eq_true rfl) (by kernel_rfl) ?_
  by_cases c1 : (hi : Int) ≤ m
  · rw [oldI_0 (by omega), newI_0 (by omega)]
    simp only [go_sem, ↓reduceIte, reduceCtorEq, Nat.reduceAdd, Nat.reduceMul, Nat.reduceEqDiff, Nat.reduceSub, Nat.reduceLT, Nat.reduceLeDiff, Nat.reduceAnd, Nat.reduceShiftRight, Nat.reduceBEq, Nat.reduceBNe, Nat.reduceBneDiff, Nat.reduceBeqDiff, Int.reduceToNat, Int.reduceLE, Int.reduceLT, Int.reduceEq, c1]
    done
  by_cases c2 : (m : Int) ≤ lo
  · rw [oldI_1 (by omega) (by omega), newI_1 (by omega) (by omega)]
    simp only [go_sem, ↓reduceIte, reduceCtorEq, Nat.reduceAdd, Nat.reduceMul, Nat.reduceEqDiff, Nat.reduceSub, Nat.reduceLT, Nat.reduceLeDiff, Nat.reduceAnd, Nat.reduceShiftRight, Nat.reduceBEq, Nat.reduceBNe, Nat.reduceBneDiff, Nat.reduceBeqDiff, Int.reduceToNat, Int.reduceLE, Int.reduceLT, Int.reduceEq, c1, c2]
    done
  have hs : splitM ((hi : Int) - (lo : Int)) = (splitN (hi - lo) : Nat) := by
    rw [show (hi : Int) - (lo : Int) = ((hi - lo : Nat) : Int) by omega]
    exact splitM_in (by omega) (by omega)
  have k1 := splitN_lt (n := hi - lo) (by omega)
  have k2 := splitN_pos (hi - lo)
  have hh : halvesM ((lo : Int), (hi : Int)) = (((lo : Int), ((lo + splitN (hi - lo) : Nat) : Int)), (((lo + splitN (hi - lo) : Nat) : Int), (hi : Int))) := by
    unfold halvesM
    dsimp only
    rw [hs]; rfl
  have l1 := fallI_len (lo := lo) (hi := lo + splitN (hi - lo)) (m := m) (by omega)
  rw [oldI_s (by omega) (by omega), newI_s (by omega) (by omega)]
  simp only [go_sem, ↓reduceIte, reduceCtorEq, Nat.reduceAdd, Nat.reduceMul, Nat.reduceEqDiff, Nat.reduceSub, Nat.reduceLT, Nat.reduceLeDiff, Nat.reduceAnd, Nat.reduceShiftRight, Nat.reduceBEq, Nat.reduceBNe, Nat.reduceBneDiff, Nat.reduceBeqDiff, Int.reduceToNat, Int.reduceLE, Int.reduceLT, Int.reduceEq, c1, c2, hh]
  exact ⟨by omega, ⟨by omega, by omega, by omega, by omega⟩, by omega, by omega, by omega, by omega⟩
theorem fallN_ok : ∀ N, (FM.fallN N).ok Tryz.prog 107
  | 0 => by
    intro args rin res rout p hm hp
    simp only [FM.fallN] at hm
    split at hm
    · split at hm
      · cases hm; exact absurd hp.2.1 (by omega)
      · cases hm
    · split at hm
      · cases hm; exact absurd hp.1 (by omega)
      · cases hm
    · cases hm
  | N + 1 => by
    have ih := fallN_ok N
    intro args rin res rout p hm hp
    simp only [FM.fallN] at hm
    split at hm
    · split at hm
      · rename_i x m xs ys hx hm' hxs hys
        cases hm
        obtain ⟨⟨rfl, rfl, rfl, rfl, rfl, rfl⟩, h0, h1, h2, h3, h4⟩ := hp
        obtain ⟨lo, hi⟩ := x
        dsimp only at h0 h1 h3 h4
        obtain ⟨lo, rfl⟩ := Int.eq_ofNat_of_zero_le h1.1
        obtain ⟨hi, rfl⟩ := Int.eq_ofNat_of_zero_le (show 0 ≤ hi by omega)
        obtain ⟨m, rfl⟩ := Int.eq_ofNat_of_zero_le h2
        exact (f_fall N ih lo hi m xs ys h0 (by omega) (by omega) h3 h4).weaken (.cons ((CE.st cNode).ok _ _ hx) (.cons ((eInt .i64).ok _ _ hm') (.cons (fun _ _ _ _ _ h => h) (.cons (fun _ _ _ _ _ h => h) .nil))))
      · cases hm
    · split at hm
      · rename_i x m hx hm'
        cases hm
        obtain ⟨h0, h1, h2⟩ := hp
        obtain ⟨lo, hi⟩ := x
        dsimp only at h0 h1
        obtain ⟨lo, rfl⟩ := Int.eq_ofNat_of_zero_le h1.1
        obtain ⟨hi, rfl⟩ := Int.eq_ofNat_of_zero_le (show 0 ≤ hi by omega)
        obtain ⟨m, rfl⟩ := Int.eq_ofNat_of_zero_le h2
        exact (f_fallNil N ih lo hi m h0 (by omega) (by omega)).weaken (.cons ((CE.st cNode).ok _ _ hx) (.cons ((eInt .i64).ok _ _ hm') (.cons (fun _ _ _ _ _ h => h) (.cons (fun _ _ _ _ _ h => h) .nil))))
      · cases hm
    · cases hm
abbrev MFall : FM := FM.fallN 1000
attribute [go_sem] MFall
theorem ok_impl_fall : MFall.ok Tryz.prog 107 := fallN_ok 1000

def H_impl_growthNodes : Hint := { fs := [(107, MFall)], kp := [(0, [0, 1]), (1, [0, 1])], an := [], own := true }
attribute [go_sem] H_impl_growthNodes
theorem ok_H_impl_growthNodes : H_impl_growthNodes.ok Tryz.prog := AllOk.okR (.cons ok_impl_fall .nil) .nil mix
theorem o_growthNodes (m n : Int) (h : 0 ≤ m ∧ 0 < n ∧ n ≤ 256) : VFun Tryz.prog 97 [(eInt .i64).enc m, (eInt .i64).enc n] [] (nodes2 (oldI 0 n.toNat m.toNat) (newI 0 n.toNat m.toNat)) (nodesR (oldI 0 n.toNat m.toNat) (newI 0 n.toNat m.toNat)) := by
  refine VFun_own (rin := []) (n := 12) (rs := [.tmp 4, .tmp 5]) Tryz.func97 rfl rfl rfl rfl H_impl_growthNodes ok_H_impl_growthNodes (Nat.le_of_ble_eq_true rfl) (by kernel_rfl) ?_
  simp only [go_sem, ↓reduceIte, reduceCtorEq, Nat.reduceAdd, Nat.reduceMul, Nat.reduceEqDiff, Nat.reduceSub, Nat.reduceLT, Nat.reduceLeDiff, Nat.reduceAnd, Nat.reduceShiftRight, Nat.reduceBEq, Nat.reduceBNe, Nat.reduceBneDiff, Nat.reduceBeqDiff, Int.reduceToNat, Int.reduceLE, Int.reduceLT, Int.reduceEq]
  exact ⟨by omega, by omega, by omega⟩
abbrev ONodes : FM := .g2 (eInt .i64) (eInt .i64) (fun m n => (nodes2 (oldI 0 n.toNat m.toNat) (newI 0 n.toNat m.toNat), nodesR (oldI 0 n.toNat m.toNat) (newI 0 n.toNat m.toNat))) (fun m n => 0 ≤ m ∧ 0 < n ∧ n ≤ 256)
attribute [go_sem] ONodes
theorem ok_impl_growthNodes : ONodes.ok Tryz.prog 97 := FM.g2_ok o_growthNodes

def H_impl_copied_impl_Digest : Hint := { fs := [], kp := [(0, [0]), (1, [0]), (2, []), (3, [0]), (4, [0, 3]), (5, [3])], an := [], own := true, ow := [(0, 0, 4)] }
attribute [go_sem] H_impl_copied_impl_Digest
theorem ok_H_impl_copied_impl_Digest : H_impl_copied_impl_Digest.ok Tryz.prog := AllOk.okR .nil .nil mix
theorem o_copied_dig (xs : List Digest) (h : xs.length ≤ 1100000) : VFun Tryz.prog 56 [(eList cDigest).enc xs] [] (oL 0 xs) [some (oR cDigest xs)] := by
  refine VFun_own (rin := []) (n := 14) (rs := [.tmp 2]) Tryz.func56 rfl rfl rfl rfl H_impl_copied_impl_Digest ok_H_impl_copied_impl_Digest (Nat.le_of_ble_eq_true rfl) (by kernel_rfl) ?_
  simp only [go_sem, ↓reduceIte, reduceCtorEq, Nat.reduceAdd, Nat.reduceMul, Nat.reduceEqDiff, Nat.reduceSub, Nat.reduceLT, Nat.reduceLeDiff, Nat.reduceAnd, Nat.reduceShiftRight, Nat.reduceBEq, Nat.reduceBNe, Nat.reduceBneDiff, Nat.reduceBeqDiff, Int.reduceToNat, Int.reduceLE, Int.reduceLT, Int.reduceEq]
  refine ite_intro (fun h1 => ?_) fun h1 => ?_
  · have : xs = [] := by simpa using h1
    rw [this]; exact ⟨rfl, rfl⟩
  · (repeat' apply And.intro) <;> first | omega | exact map_len_all cDigest rfl xs | (simp; done) | rfl
theorem ok_impl_copied_impl_Digest : ODigCopy.ok Tryz.prog 56 := FM.g1_ok fun xs h => o_copied_dig xs h

theorem nodes_eq (l : List ByteArray) (m : Nat) : (oldI 0 l.length m ++ newI 0 l.length m) = (fallO 0 l.length m ++ fallF 0 l.length m).map nodeI := by
  rw [oldI, newI, List.map_append]

end Go.Proofs.YtcgkhljolflenaaGreatW.V

