/- Functions: the proof of a growth is checked. No condition but each theorem's own. -/
import Derived.Test.YtcgkhljolflenaaGreatFGB
namespace Go.Proofs.YtcgkhljolflenaaGreatW.V
open Go Go.Proofs
set_option linter.unusedSimpArgs false
set_option linter.unusedVariables false
set_option maxRecDepth 8000
set_option maxHeartbeats 4000000

set_option synthInstance.maxSize 1000

/-! How many bits a number has. -/
theorem u64_andL (x : UInt64) (k : Nat) (h : Nat.ble k 18446744073709551615 = true) : andI .u64 (x.toNat : Int) (OfNat.ofNat k : Int) = ((x &&& OfNat.ofNat k).toNat : Int) := by
  have h' := Nat.le_of_ble_eq_true h
  have e : ((OfNat.ofNat k : UInt64).toNat : Int) = OfNat.ofNat k := by
    show (((UInt64.ofNat k).toNat : Nat) : Int) = (k : Int)
    have := UInt64.toNat_ofNat' (n := k)
    omega
  rw [← e]
  show IntKind.u64.wrap ((BitVec.ofInt 64 (x.toNat : Int) &&& BitVec.ofInt 64 ((OfNat.ofNat k : UInt64).toNat : Int)).toNat : Nat) = _
  rw [ofBits, ofBits, wrapNat _ (BitVec.isLt _)]; rfl
@[go_sem] theorem u64_and1 (x : UInt64) : andI .u64 (x.toNat : Int) 6148914691236517205 = ((x &&& 6148914691236517205).toNat : Int) := u64_andL x _ rfl
@[go_sem] theorem u64_and2 (x : UInt64) : andI .u64 (x.toNat : Int) 3689348814741910323 = ((x &&& 3689348814741910323).toNat : Int) := u64_andL x _ rfl
@[go_sem] theorem u64_and3 (x : UInt64) : andI .u64 (x.toNat : Int) 1085102592571150095 = ((x &&& 1085102592571150095).toNat : Int) := u64_andL x _ rfl

def pop1 (x : UInt64) : UInt64 := (x >>> UInt64.ofNat 1 &&& 6148914691236517205) + (x &&& 6148914691236517205)
def pop2 (x : UInt64) : UInt64 := (x >>> UInt64.ofNat 2 &&& 3689348814741910323) + (x &&& 3689348814741910323)
def pop3 (x : UInt64) : UInt64 := (x >>> UInt64.ofNat 4 + x) &&& 1085102592571150095
def pop4 (x : UInt64) : UInt64 := x + x >>> UInt64.ofNat 8
def pop5 (x : UInt64) : UInt64 := x + x >>> UInt64.ofNat 16
def pop6 (x : UInt64) : UInt64 := x + x >>> UInt64.ofNat 32
def popI (x : UInt64) : Int := andI .i64 (IntKind.i64.wrap ((pop6 (pop5 (pop4 (pop3 (pop2 (pop1 x)))))).toNat : Int)) 127

def H_math_bits_OnesCount64 : Hint := { fs := [], kp := [(0, [0]), (1, [0]), (2, [0]), (3, [0]), (4, [0]), (5, [0]), (6, [0]), (7, [0])], an := [] }
attribute [go_sem] H_math_bits_OnesCount64
theorem ok_H_math_bits_OnesCount64 : H_math_bits_OnesCount64.ok Tryz.prog := AllOk.okR .nil .nil mix
theorem f_OnesCount64 (x : UInt64) : VFun Tryz.prog 109 [eU64.enc x] [] ((eInt .i64).enc (popI x)) [] := by
  refine VFun_pure (n := 35) (rs := [.tmp 2]) Tryz.func109 rfl rfl rfl rfl H_math_bits_OnesCount64 ok_H_math_bits_OnesCount64 _ _ (Nat.le_of_ble_eq_true rfl) (by kernel_rfl) ?_
  simp only [go_sem, ↓reduceIte, reduceCtorEq, Nat.reduceAdd, Nat.reduceMul, Nat.reduceEqDiff, Nat.reduceSub, Nat.reduceLT, Nat.reduceLeDiff, Nat.reduceAnd, Nat.reduceShiftRight, Nat.reduceBEq, Nat.reduceBNe, Nat.reduceBneDiff, Nat.reduceBeqDiff, Int.reduceToNat, Int.reduceLE, Int.reduceLT, Int.reduceEq]
  rfl
abbrev MOnes : FM := .f1 eU64 (eInt .i64).enc popI (fun _ => True)
attribute [go_sem] MOnes
theorem ok_math_bits_OnesCount64 : MOnes.ok Tryz.prog 109 := FM.f1_ok fun x _ => f_OnesCount64 x

def H_math_bits_OnesCount : Hint := { fs := [(109, MOnes)], kp := [(0, [0]), (1, [0]), (2, [0])], an := [] }
attribute [go_sem] H_math_bits_OnesCount
theorem ok_H_math_bits_OnesCount : H_math_bits_OnesCount.ok Tryz.prog := AllOk.okR (.cons ok_math_bits_OnesCount64 .nil) .nil mix
theorem f_OnesCount (x : UInt64) : VFun Tryz.prog 99 [eU64.enc x] [] ((eInt .i64).enc (popI x)) [] := by
  refine VFun_pure (n := 8) (rs := [.tmp 2]) Tryz.func99 rfl rfl rfl rfl H_math_bits_OnesCount ok_H_math_bits_OnesCount _ _ (Nat.le_of_ble_eq_true rfl) (by kernel_rfl) ?_
  simp only [go_sem, ↓reduceIte, reduceCtorEq, Nat.reduceAdd, Nat.reduceMul, Nat.reduceEqDiff, Nat.reduceSub, Nat.reduceLT, Nat.reduceLeDiff, Nat.reduceAnd, Nat.reduceShiftRight, Nat.reduceBEq, Nat.reduceBNe, Nat.reduceBneDiff, Nat.reduceBeqDiff, Int.reduceToNat, Int.reduceLE, Int.reduceLT, Int.reduceEq]
theorem ok_math_bits_OnesCount : MOnes.ok Tryz.prog 99 := FM.f1_ok fun x _ => f_OnesCount x

def pcM (n : Int) : Int := if 0 ≤ n ∧ n ≤ 256 then popI (uOf n) else 0
def H_impl_PeaksCount : Hint := { fs := [(96, M166), (99, MOnes)], kp := [(0, [0]), (1, [0]), (2, []), (3, [0])], an := [] }
attribute [go_sem] H_impl_PeaksCount
theorem ok_H_impl_PeaksCount : H_impl_PeaksCount.ok Tryz.prog := AllOk.okR (.cons m180 (.cons ok_math_bits_OnesCount .nil)) .nil mix
theorem f_PeaksCount (n : Int) : VFun Tryz.prog 63 [(eInt .i64).enc n] [] ((eInt .i64).enc (pcM n)) [] := by
  refine VFun_pure (n := 9) (rs := [.tmp 2]) Tryz.func63 rfl rfl rfl rfl H_impl_PeaksCount ok_H_impl_PeaksCount _ _ (Nat.le_of_ble_eq_true rfl) (by kernel_rfl) ?_
  simp only [go_sem, ↓reduceIte, reduceCtorEq, Nat.reduceAdd, Nat.reduceMul, Nat.reduceEqDiff, Nat.reduceSub, Nat.reduceLT, Nat.reduceLeDiff, Nat.reduceAnd, Nat.reduceShiftRight, Nat.reduceBEq, Nat.reduceBNe, Nat.reduceBneDiff, Nat.reduceBeqDiff, Int.reduceToNat, Int.reduceLE, Int.reduceLT, Int.reduceEq, wrapU]
  unfold pcM
  exact ite_intro (fun h => by rw [if_neg h]) fun h => by rw [if_pos (Classical.not_not.1 h)]
abbrev MPeaksC : FM := .f1 (eInt .i64) (eInt .i64).enc pcM (fun _ => True)
attribute [go_sem] MPeaksC
theorem ok_impl_PeaksCount : MPeaksC.ok Tryz.prog 63 := FM.f1_ok fun n _ => f_PeaksCount n

/-- How many peaks. -/
def pcN : Nat → Nat → Nat
  | 0, _ => 0
  | f + 1, m => if m = 0 then 0 else 1 + pcN f (m - halfN m)
theorem pc_all : ∀ n, n ∈ List.range 257 → popI (uOf n) = (pcN 9 n : Nat) ∧ pcN 9 n ≤ 8 := by decide +kernel

theorem pc_pop {n : Nat} (h : n ≤ 256) : popI (uOf n) = (pcN 9 n : Nat) ∧ pcN 9 n ≤ 8 := pc_all n (List.mem_range.2 (by omega))
theorem peaks_pc : ∀ (f a m : Nat), m - a < 2 ^ f → (peaksN a m).length = pcN f (m - a)
  | 0, a, m, h => by rw [peaksN_end (by omega)]; rfl
  | f + 1, a, m, h => by
    by_cases hlt : a < m
    · have h2 : m - a < 2 * halfN (m - a) := by
        have := Nat.lt_log2_self (n := m - a)
        unfold halfN
        rw [Nat.pow_succ] at this
        omega
      obtain ⟨k1, k2⟩ := halfN_in hlt
      have h3 : Nat.log2 (m - a) < f + 1 := (Nat.log2_lt (by omega)).2 h
      have h4 : halfN (m - a) ≤ 2 ^ f := Nat.pow_le_pow_right (by decide) (by omega)
      rw [peaksN_go hlt, List.length_cons, peaks_pc f _ _ (by omega), pcN, if_neg (by omega), show m - (a + halfN (m - a)) = m - a - halfN (m - a) by omega]
      omega
    · rw [peaksN_end (by omega), pcN, if_pos (by omega)]; rfl
theorem peaks_len {m : Nat} (h : m ≤ 256) : pcM m = ((peaksN 0 m).length : Nat) ∧ (peaksN 0 m).length ≤ 8 := by
  have h1 := peaks_pc 9 0 m (by omega)
  obtain ⟨h2, h3⟩ := pc_pop h
  rw [Nat.sub_zero] at h1
  rw [h1, pcM, if_pos (by omega)]
  exact ⟨h2, h3⟩

/-- The root of peaks. -/
def peaksR : List Digest → Digest
  | [] => hashOf ⟨#[]⟩
  | d :: ds => if 8 < ds.length + 1 then (0, 0, 0, 0) else if ds.length = 0 then d else pairH d (peaksR ds)
theorem peaksR_big {l : List Digest} (h : 8 < l.length) : peaksR l = (0, 0, 0, 0) := by
  cases l with
  | nil => exact absurd h (by simp)
  | cons d ds => rw [peaksR, if_pos (by simpa using h)]
theorem peaksR_1 (d : Digest) : peaksR [d] = d := rfl
theorem peaksR_2 {d : Digest} {ds : List Digest} (h : ds.length + 1 ≤ 8) (h2 : 1 ≤ ds.length) : peaksR (d :: ds) = pairH d (peaksR ds) := by
  rw [peaksR, if_neg (by omega), if_neg (by omega)]
theorem runM_split {l : List ByteArray} {a n : Nat} (h : a + 2 ≤ n) (hn : n ≤ l.length) : runM l (a, n) = pairH (runM l (a, a + splitN (n - a))) (runM l (a + splitN (n - a), n)) := by
  have hl : ((l.drop a).take (n - a)).length = n - a := by rw [List.length_take, List.length_drop]; omega
  have h2 := splitN_lt (n := n - a) (by omega)
  unfold runM
  dsimp only
  rw [rootM_2 (by omega), hl, List.take_take, List.drop_take, List.drop_drop, Nat.min_eq_left (by omega), show a + splitN (n - a) - a = splitN (n - a) by omega, show n - (a + splitN (n - a)) = n - a - splitN (n - a) by omega]
theorem peaksR_run (l : List ByteArray) (n : Nat) (hn : n ≤ l.length) : ∀ (a : Nat), a < n → (peaksN a n).length ≤ 8 → peaksR ((peaksN a n).map (runM l)) = runM l (a, n) := by
  intro a
  induction hd : n - a using Nat.strongRecOn generalizing a with
  | _ k ih =>
    subst hd
    intro h h8
    obtain ⟨k1, k2⟩ := halfN_in h
    rw [peaksN_go h] at h8 ⊢
    rw [List.length_cons] at h8
    rw [List.map_cons]
    by_cases he : a + halfN (n - a) = n
    · rw [peaksN_end (a := a + halfN (n - a)) (by omega), he]; rfl
    · have h2 : n - a < 2 * halfN (n - a) := by
        have := Nat.lt_log2_self (n := n - a)
        unfold halfN
        rw [Nat.pow_succ] at this
        omega
      have hs : splitN (n - a) = halfN (n - a) := splitN_eq rfl (by omega) (by omega)
      have hp : 1 ≤ (peaksN (a + halfN (n - a)) n).length := by rw [peaksN_go (by omega), List.length_cons]; omega
      rw [peaksR_2 (by rw [List.length_map]; omega) (by rw [List.length_map]; omega), ih _ (by omega) _ rfl (by omega) (by omega), runM_split (a := a) (n := n) (by omega) hn, hs]

abbrev MPeaksRN (N : Nat) : FM := .f1 (eList cDigest) (CE.st cDigest).enc peaksR (fun l => l.length < N)
abbrev MPeaksR : FM := .f1 (eList cDigest) (CE.st cDigest).enc peaksR (fun l => l.length ≤ 1048576)
attribute [go_sem] MPeaksRN MPeaksR
def H_impl_PeaksRoot (N : Nat) : Hint := { fs := [(36, MHashOf), (67, (MPeaksRN N)), (69, MPairH)], kp := [(0, [0]), (1, [0, 2]), (2, [2]), (3, [0, 2]), (4, [2]), (5, [0, 2]), (6, [0, 2]), (7, [0, 2])], an := [(7, [0, 1, 3, 0, 8, 24, 63, 127])] }
attribute [go_sem] H_impl_PeaksRoot
theorem ok_H_impl_PeaksRoot (N : Nat) (ih : (MPeaksRN N).ok Tryz.prog 67) : (H_impl_PeaksRoot N).ok Tryz.prog := AllOk.okR (.cons ok_impl_HashOf (.cons ih (.cons ok_impl_HashPair .nil))) .nil mix
theorem f_PeaksRoot : ∀ (N : Nat) (l : List Digest), l.length < N → VFun Tryz.prog 67 [(eList cDigest).enc l] [] ((CE.st cDigest).enc (peaksR l)) []
  | 0, l, h => absurd h (by omega)
  | N + 1, l, h => by
    have ih : (MPeaksRN N).ok Tryz.prog 67 := FM.f1_ok fun l h => f_PeaksRoot N l h
    refine VFun_pure (n := 27) (rs := [.cell 2 25]) Tryz.func67 rfl rfl rfl rfl (H_impl_PeaksRoot N) (ok_H_impl_PeaksRoot N ih) _ _ (Nat.le_of_ble_eq_true rfl) (by kernel_rfl) ?_
    match l with
    | [] =>
      simp only [go_sem, ↓reduceIte, reduceCtorEq, Nat.reduceAdd, Nat.reduceMul, Nat.reduceEqDiff, Nat.reduceSub, Nat.reduceLT, Nat.reduceLeDiff, Nat.reduceAnd, Nat.reduceShiftRight, Nat.reduceBEq, Nat.reduceBNe, Nat.reduceBneDiff, Nat.reduceBeqDiff, Int.reduceToNat, Int.reduceLE, Int.reduceLT, Int.reduceEq]
      rfl
    | [d] =>
      have c0 : (((1 : Nat) : Int) = 0) = False := eq_false (by omega)
      have c1 : (((1 : Nat) : Int) = 1) = True := eq_true (by omega)
      simp only [go_sem, ↓reduceIte, reduceCtorEq, Nat.reduceAdd, Nat.reduceMul, Nat.reduceEqDiff, Nat.reduceSub, Nat.reduceLT, Nat.reduceLeDiff, Nat.reduceAnd, Nat.reduceShiftRight, Nat.reduceBEq, Nat.reduceBNe, Nat.reduceBneDiff, Nat.reduceBeqDiff, Int.reduceToNat, Int.reduceLE, Int.reduceLT, Int.reduceEq, c0, c1]
      rfl
    | d :: e :: l =>
      have hn : (d :: e :: l).length = (e :: l).length + 1 := rfl
      have hn2 : 1 ≤ (e :: l).length := by simp
      have hx : (d :: e :: l)[0]? = some d := rfl
      have hdr : (d :: e :: l).drop 1 = e :: l := rfl
      have h8 : ¬ 8 < (d :: e :: l).length → peaksR (d :: e :: l) = pairH d (peaksR (e :: l)) := fun h => peaksR_2 (by omega) hn2
      have h9 : 8 < (d :: e :: l).length → peaksR (d :: e :: l) = (0, 0, 0, 0) := peaksR_big
      generalize (d :: e :: l) = w at *
      generalize (e :: l) = v at *
      have c0 : ((w.length : Int) = 0) = False := eq_false (by omega)
      have c1 : ((w.length : Int) = 1) = False := eq_false (by omega)
      have cl : 0 < w.length := by omega
      by_cases c8 : 8 < (w.length : Int)
      · rw [h9 (by omega)]
        simp only [go_sem, ↓reduceIte, reduceCtorEq, Nat.reduceAdd, Nat.reduceMul, Nat.reduceEqDiff, Nat.reduceSub, Nat.reduceLT, Nat.reduceLeDiff, Nat.reduceAnd, Nat.reduceShiftRight, Nat.reduceBEq, Nat.reduceBNe, Nat.reduceBneDiff, Nat.reduceBeqDiff, Int.reduceToNat, Int.reduceLE, Int.reduceLT, Int.reduceEq, c0, c8]
      · rw [h8 (by omega)]
        have ht : v.take (w.length - 1) = v := List.take_of_length_le (by omega)
        simp only [go_sem, ↓reduceIte, reduceCtorEq, Nat.reduceAdd, Nat.reduceMul, Nat.reduceEqDiff, Nat.reduceSub, Nat.reduceLT, Nat.reduceLeDiff, Nat.reduceAnd, Nat.reduceShiftRight, Nat.reduceBEq, Nat.reduceBNe, Nat.reduceBneDiff, Nat.reduceBeqDiff, Int.reduceToNat, Int.reduceLE, Int.reduceLT, Int.reduceEq, c0, c1, c8, hx, hdr, cl, ht]
        omega
theorem ok_PeaksRoot : MPeaksR.ok Tryz.prog 67 := FM.f1_ok fun l h => f_PeaksRoot (l.length + 1) l (by omega)

def glM (m n : Int) : Int := if (0 ≤ m ∧ m ≤ n) ∧ n ≤ 256 then (if m = 0 ∨ m = n then 0 else ((oldI 0 n.toNat m.toNat).length + (newI 0 n.toNat m.toNat).length : Nat)) else -1
abbrev MGLen : FM := .f2 (eInt .i64) (eInt .i64) (eInt .i64).enc glM (fun _ _ => True)
attribute [go_sem] MGLen
def H_impl_GrowthLen : Hint := { fs := [(53, MSizes), (97, ONodes)], kp := [(0, [0, 1]), (1, [0, 1]), (2, []), (3, [0, 1]), (4, []), (5, [0, 1]), (6, [5, 6])], an := [] }
attribute [go_sem] H_impl_GrowthLen
theorem ok_H_impl_GrowthLen : H_impl_GrowthLen.ok Tryz.prog := AllOk.okR (.cons ok_impl_mayGrow (.cons ok_impl_growthNodes .nil)) .nil mix
theorem f_impl_GrowthLen (m n : Int) : VFun Tryz.prog 55 [(eInt .i64).enc m, (eInt .i64).enc n] [] ((eInt .i64).enc (glM m n)) [] := by
  refine VFun_pure (n := 29) (rs := [.tmp 4]) Tryz.func55 rfl rfl rfl rfl H_impl_GrowthLen ok_H_impl_GrowthLen _ _ (Nat.le_of_ble_eq_true rfl) (by kernel_rfl) ?_
  by_cases h : (0 ≤ m ∧ m ≤ n) ∧ n ≤ 256
  case neg =>
    simp only [go_sem, ↓reduceIte, reduceCtorEq, Nat.reduceAdd, Nat.reduceMul, Nat.reduceEqDiff, Nat.reduceSub, Nat.reduceLT, Nat.reduceLeDiff, Nat.reduceAnd, Nat.reduceShiftRight, Nat.reduceBEq, Nat.reduceBNe, Nat.reduceBneDiff, Nat.reduceBeqDiff, Int.reduceToNat, Int.reduceLE, Int.reduceLT, Int.reduceEq, h]
    rw [glM, if_neg h]
  by_cases h2 : m = 0 ∨ m = n
  · rw [glM, if_pos h, if_pos h2]
    simp only [go_sem, ↓reduceIte, reduceCtorEq, Nat.reduceAdd, Nat.reduceMul, Nat.reduceEqDiff, Nat.reduceSub, Nat.reduceLT, Nat.reduceLeDiff, Nat.reduceAnd, Nat.reduceShiftRight, Nat.reduceBEq, Nat.reduceBNe, Nat.reduceBneDiff, Nat.reduceBeqDiff, Int.reduceToNat, Int.reduceLE, Int.reduceLT, Int.reduceEq, h]
    exact ite_intro (fun h3 => by rw [if_pos (by omega)]; trivial) fun _ => trivial
  · rw [glM, if_pos h, if_neg h2]
    have hm : (m = 0) = False := eq_false (by omega)
    have hn : (m = n) = False := eq_false (by omega)
    have hl := fallI_len (lo := 0) (hi := n.toNat) (m := m.toNat) (by omega)
    have w1 : IntKind.i64.wrap (((oldI 0 n.toNat m.toNat).length : Int) + ((newI 0 n.toNat m.toNat).length : Int)) = (((oldI 0 n.toNat m.toNat).length + (newI 0 n.toNat m.toNat).length : Nat) : Int) := by rw [wrap64] <;> omega
    simp only [go_sem, ↓reduceIte, reduceCtorEq, Nat.reduceAdd, Nat.reduceMul, Nat.reduceEqDiff, Nat.reduceSub, Nat.reduceLT, Nat.reduceLeDiff, Nat.reduceAnd, Nat.reduceShiftRight, Nat.reduceBEq, Nat.reduceBNe, Nat.reduceBneDiff, Nat.reduceBeqDiff, Int.reduceToNat, Int.reduceLE, Int.reduceLT, Int.reduceEq, h, hm, hn, w1]
    omega
theorem ok_impl_GrowthLen : MGLen.ok Tryz.prog 55 := FM.f2_ok fun m n _ => f_impl_GrowthLen m n

/-- The digests of nodes. -/
abbrev NodeMap := List ((Int × Int) × Digest)
def keyV (x : Int × Int) : Value := .agg #[.int .i64 x.1, .int .i64 x.2]
abbrev digV (d : Digest) : Value := .agg ⟨[.int .u64 d.1.toNat, .int .u64 d.2.1.toNat, .int .u64 d.2.2.1.toNat, .int .u64 d.2.2.2.toNat]⟩
attribute [go_sem] digV
def nmV (M : NodeMap) : List (Value × Value) := M.map fun e => (keyV e.1, digV e.2)
def findN (M : NodeMap) (x : Int × Int) : Option Digest := match M with
  | [] => none
  | e :: M => if e.1 = x then some e.2 else findN M x
theorem eqT_node (x y : Int × Int) : eqT Tryz.prog 8 104 [.int .i64 x.1, .int .i64 x.2] [.int .i64 y.1, .int .i64 y.2] = some (decide (y = x)) := by
  simp only [go_sem, ↓reduceIte, reduceCtorEq, Nat.reduceAdd, Nat.reduceMul, Nat.reduceEqDiff, Nat.reduceSub, Nat.reduceLT, Nat.reduceLeDiff, Nat.reduceAnd, Nat.reduceShiftRight, Nat.reduceBEq, Nat.reduceBNe, Nat.reduceBneDiff, Nat.reduceBeqDiff, Int.reduceToNat, Int.reduceLE, Int.reduceLT, Int.reduceEq]
  obtain ⟨a, b⟩ := x
  obtain ⟨c, d⟩ := y
  congr 1
  rw [Bool.eq_iff_iff]
  simp only [Bool.and_eq_true, decide_eq_true_eq, Prod.mk.injEq]
  exact ⟨fun h => ⟨h.1.symm, h.2.symm⟩, fun h => ⟨h.1.symm, h.2.symm⟩⟩
theorem nmV_app (M : NodeMap) (x : Int × Int) (d : Digest) : nmV (M ++ [(x, d)]) = nmV M ++ [(keyV x, digV d)] := by rw [nmV, List.map_append]; rfl
theorem mfind_no {M : NodeMap} {x : Int × Int} (h : findN M x = none) : mfind Tryz.prog 104 true [.int .i64 x.1, .int .i64 x.2] (nmV M) = some none := by
  induction M with
  | nil => rfl
  | cons e M ih =>
    unfold findN at h
    split at h
    · cases h
    · rename_i he
      have e1 := eqT_node x e.1
      rw [decide_eq_false he] at e1
      show (match eqT Tryz.prog 8 104 [.int .i64 x.1, .int .i64 x.2] [.int .i64 e.1.1, .int .i64 e.1.2] with
        | some true => some (some (0, digV e.2))
        | some false => (match mfind Tryz.prog 104 true [.int .i64 x.1, .int .i64 x.2] (nmV M) with
          | some (some (i, v)) => some (some (i + 1, v))
          | some none => some none
          | none => none)
        | none => none) = _
      rw [e1, ih h]
theorem mfind_at {M : NodeMap} {x : Int × Int} {d : Digest} (h : findN M x = some d) : ∃ i, mfind Tryz.prog 104 true [.int .i64 x.1, .int .i64 x.2] (nmV M) = some (some (i, digV d)) := by
  induction M with
  | nil => cases h
  | cons e M ih =>
    unfold findN at h
    have e1 := eqT_node x e.1
    have e2 : mfind Tryz.prog 104 true [.int .i64 x.1, .int .i64 x.2] (nmV (e :: M)) = (match eqT Tryz.prog 8 104 [.int .i64 x.1, .int .i64 x.2] [.int .i64 e.1.1, .int .i64 e.1.2] with
        | some true => some (some (0, digV e.2))
        | some false => (match mfind Tryz.prog 104 true [.int .i64 x.1, .int .i64 x.2] (nmV M) with
          | some (some (i, v)) => some (some (i + 1, v))
          | some none => some none
          | none => none)
        | none => none) := rfl
    split at h
    · rename_i he
      cases h
      rw [decide_eq_true he] at e1
      exact ⟨0, by rw [e2, e1]⟩
    · rename_i he
      obtain ⟨i, hi⟩ := ih h
      rw [decide_eq_false he] at e1
      exact ⟨i + 1, by rw [e2, e1, hi]⟩
theorem findN_no {M : NodeMap} {x : Int × Int} (h : ∀ e ∈ M, e.1 ≠ x) : findN M x = none := by
  induction M with
  | nil => rfl
  | cons e M ih => rw [findN, if_neg (h e (by simp))]; exact ih fun e he => h e (by simp [he])
theorem findN_mem {M : NodeMap} {x : Int × Int} {d : Digest} (h : findN M x = some d) : (x, d) ∈ M := by
  induction M with
  | nil => cases h
  | cons e M ih =>
    unfold findN at h
    split at h
    · rename_i he; cases h; rw [← he]; exact List.mem_cons_self
    · exact List.mem_cons_of_mem _ (ih h)
theorem findN_has {M : NodeMap} {x : Int × Int} (h : ∃ e ∈ M, e.1 = x) : ∃ d, findN M x = some d := by
  cases hf : findN M x with
  | some d => exact ⟨d, rfl⟩
  | none =>
    exfalso
    obtain ⟨e, he, hx⟩ := h
    induction M with
    | nil => cases he
    | cons a M ih =>
      unfold findN at hf
      split at hf
      · cases hf
      · rename_i hn
        rcases List.mem_cons.1 he with rfl | he
        · exact hn hx
        · exact ih hf he

theorem fall_nodup (lo hi m : Nat) (hlt : lo < hi) : (fallO lo hi m ++ fallF lo hi m).Nodup := by
  induction hd : hi - lo using Nat.strongRecOn generalizing lo hi with
  | _ n ih =>
    subst hd
    by_cases h : hi ≤ m
    · rw [fallO_old h, fallF_old h]; simp
    by_cases h2 : m ≤ lo
    · rw [fallO_new h h2, fallF_new h h2]; simp
    rw [fallO_mid h h2, fallF_mid h h2]
    have k1 := splitN_lt (n := hi - lo) (by omega)
    have k2 := splitN_pos (hi - lo)
    obtain ⟨a1, a2, -⟩ := fall_in lo (lo + splitN (hi - lo)) m (by omega)
    obtain ⟨b1, b2, -⟩ := fall_in (lo + splitN (hi - lo)) hi m (by omega)
    have n1 := ih _ (by omega) lo (lo + splitN (hi - lo)) (by omega) rfl
    have n2 := ih _ (by omega) (lo + splitN (hi - lo)) hi (by omega) rfl
    rw [List.nodup_append] at n1 n2
    obtain ⟨p1, p2, p3⟩ := n1
    obtain ⟨q1, q2, q3⟩ := n2
    have far : ∀ x y : Nat × Nat, x.1 < x.2 → x.2 ≤ lo + splitN (hi - lo) → lo + splitN (hi - lo) ≤ y.1 → x ≠ y := fun x y h1 h2 h3 he => by rw [he] at h1 h2; omega
    rw [List.nodup_append, List.nodup_append, List.nodup_append]
    refine ⟨⟨p1, q1, fun x hx y hy => ?_⟩, ⟨p2, q2, fun x hx y hy => ?_⟩, fun x hx y hy => ?_⟩
    · have := a1 x hx; have := b1 y hy; exact far x y (by omega) (by omega) (by omega)
    · have := a2 x hx; have := b2 y hy; exact far x y (by omega) (by omega) (by omega)
    · rcases List.mem_append.1 hx with hx | hx <;> rcases List.mem_append.1 hy with hy | hy
      · exact p3 x hx y hy
      · have := a1 x hx; have := b2 y hy; exact far x y (by omega) (by omega) (by omega)
      · have := b1 x hx; have := a2 y hy; exact (far y x (by omega) (by omega) (by omega)).symm
      · exact q3 x hx y hy
theorem nodeI_inj {x y : Nat × Nat} (h : nodeI x = nodeI y) : x = y := by
  unfold nodeI at h
  have h1 := congrArg Prod.fst h
  have h2 := congrArg Prod.snd h
  dsimp only at h1 h2
  exact Prod.ext (by omega) (by omega)
/-- The nodes of a growth, the old ones first. -/
def nodesI (m n : Nat) : List (Int × Int) := oldI 0 n m ++ newI 0 n m
theorem nodesI_map (m n : Nat) : nodesI m n = (fallO 0 n m ++ fallF 0 n m).map nodeI := by rw [List.map_append]; rfl
theorem nodesI_nodup {m n : Nat} (h : 0 < n) : (nodesI m n).Nodup := by
  rw [nodesI_map]
  exact List.pairwise_map.2 ((fall_nodup 0 n m h).imp fun hne he => hne (nodeI_inj he))

def H_impl_known : Hint := { fs := [(97, ONodes)], kp := [(0, [0, 1, 2]), (1, [0, 1, 2]), (2, [2, 7, 8]), (3, [2, 7, 8, 9]), (4, [2, 9, 21, 22, 23]), (5, [2, 9, 21, 22, 23]), (6, [2, 9, 10, 11, 21, 22, 23]), (7, [2, 9, 21, 22, 23]), (8, [9])], an := [(6, [0, 0, 0, 0, 12, 28, 63])], own := true }
attribute [go_sem] H_impl_known
theorem ok_H_impl_known : H_impl_known.ok Tryz.prog := AllOk.okR (.cons ok_impl_growthNodes .nil) .nil mix
theorem o_known (m n : Nat) (prf : List Digest) (h : m ≤ n ∧ 0 < n ∧ n ≤ 256) (hp : prf.length = (nodesI m n).length) : VFun Tryz.prog 57 [(eInt .i64).enc m, (eInt .i64).enc n, (eList cDigest).enc prf] [] (.x (.o (.p (0, 0) 0 0 0))) [some (.mp (nmV ((nodesI m n).zip prf)))] := by
  refine VFun_own (rin := []) (n := 36) (rs := [.tmp 6]) Tryz.func57 rfl rfl rfl rfl H_impl_known ok_H_impl_known (Nat.le_of_ble_eq_true rfl) (by kernel_rfl) ?_
  have hb := fallI_len (lo := 0) (hi := n) (m := m) (by omega)
  have hnd := nodesI_nodup (m := m) (n := n) h.2.1
  obtain ⟨xs, hxs⟩ : ∃ xs, nodesI m n = xs := ⟨_, rfl⟩
  have hxs' : oldI 0 n m ++ newI 0 n m = xs := hxs
  rw [hxs] at hp hnd
  have hlen : (oldI 0 n m).length + (newI 0 n m).length = xs.length := by rw [← hxs', List.length_append]
  have hbig : xs.length ≤ 256 := by omega
  have hz : (xs.zip prf).length = xs.length := by rw [List.length_zip]; omega
  simp only [go_sem, ↓reduceIte, reduceCtorEq, Nat.reduceAdd, Nat.reduceMul, Nat.reduceEqDiff, Nat.reduceSub, Nat.reduceLT, Nat.reduceLeDiff, Nat.reduceAnd, Nat.reduceShiftRight, Nat.reduceBEq, Nat.reduceBNe, Nat.reduceBneDiff, Nat.reduceBeqDiff, Int.reduceToNat, Int.reduceLE, Int.reduceLT, Int.reduceEq, hlen]
  simp only [← List.map_append, hxs', hxs]
  refine ⟨by omega, by omega, ?_⟩
  refine LoopV.go (H := H_impl_known) ok_H_impl_known (by kernel_rfl) (fun i : Nat => ⟨[(2, .x (.o (.c (.s (prf.map cDigest.enc))))), (9, .x (.o (.p (1, 100) 0 0 0))), (21, .x (.o (.h (1, 101) 0 xs.length xs.length))), (22, sc (.int .i64 xs.length)), (23, sc (.int .i64 i))], [((1, 100), .mp (nmV ((xs.zip prf).take i))), ((1, 101), .row 2 (xs.map cNode.enc))], 2⟩) (fun i => xs.length - i) (fun i => i ≤ xs.length) ?_ 0 (Nat.zero_le _)
  intro i hi
  have w1 : IntKind.i64.wrap ((i : Int) + 1) = ((i + 1 : Nat) : Int) := by rw [wrap64] <;> omega
  by_cases hlt : i < xs.length
  · have c1 : ((i : Int) < (xs.length : Int)) = True := eq_true (by omega)
    have hlt2 : i < prf.length := by omega
    have hx : xs[i]? = some (xs[i]'hlt) := List.getElem?_eq_getElem hlt
    have hd : prf[i]? = some (prf[i]'hlt2) := List.getElem?_eq_getElem hlt2
    have hno : findN ((xs.zip prf).take i) (xs[i]'hlt) = none := findN_no fun e he hx => by
      obtain ⟨j, hj, he⟩ := List.mem_iff_getElem.1 he
      rw [List.length_take] at hj
      rw [List.getElem_take, List.getElem_zip] at he
      have h1 : xs[j]'(by omega) = xs[i]'hlt := by rw [← hx, ← he]
      have := (List.getElem_inj hnd).1 h1
      omega
    have htk : (xs.zip prf).take (i + 1) = (xs.zip prf).take i ++ [(xs[i]'hlt, prf[i]'hlt2)] := by
      rw [List.take_add_one, List.getElem?_eq_getElem (by omega), List.getElem_zip]; rfl
    obtain ⟨x, hxx⟩ : ∃ x, xs[i]'hlt = x := ⟨_, rfl⟩
    obtain ⟨d, hdd⟩ : ∃ d, prf[i]'hlt2 = d := ⟨_, rfl⟩
    rw [hxx] at hx hno htk
    rw [hdd] at hd htk
    simp only [go_sem, ↓reduceIte, reduceCtorEq, Nat.reduceAdd, Nat.reduceMul, Nat.reduceEqDiff, Nat.reduceSub, Nat.reduceLT, Nat.reduceLeDiff, Nat.reduceAnd, Nat.reduceShiftRight, Nat.reduceBEq, Nat.reduceBNe, Nat.reduceBneDiff, Nat.reduceBeqDiff, Int.reduceToNat, Int.reduceLE, Int.reduceLT, Int.reduceEq, c1, w1, hx, hd, eq_true hlt, eq_true hlt2, mfind_no hno]
    refine ⟨i + 1, by omega, by omega, ?_⟩
    rw [htk, nmV_app]
    rfl
  · have c1 : ((i : Int) < (xs.length : Int)) = False := eq_false (by omega)
    have htk : (xs.zip prf).take i = xs.zip prf := List.take_of_length_le (by omega)
    simp only [go_sem, ↓reduceIte, reduceCtorEq, Nat.reduceAdd, Nat.reduceMul, Nat.reduceEqDiff, Nat.reduceSub, Nat.reduceLT, Nat.reduceLeDiff, Nat.reduceAnd, Nat.reduceShiftRight, Nat.reduceBEq, Nat.reduceBNe, Nat.reduceBneDiff, Nat.reduceBeqDiff, Int.reduceToNat, Int.reduceLE, Int.reduceLT, Int.reduceEq, c1, htk]
def FM.known : FM := ⟨[], fun args rin => match args, rin with
  | [e1, e2, e3], [] => match (eInt .i64).dec e1, (eInt .i64).dec e2, (eList cDigest).dec e3 with
    | some m, some n, some prf => some (.x (.o (.p (0, 0) 0 0 0)), [some (.mp (nmV ((nodesI m.toNat n.toNat).zip prf)))], (0 ≤ m ∧ m ≤ n ∧ 0 < n ∧ n ≤ 256) ∧ prf.length = (nodesI m.toNat n.toNat).length)
    | _, _, _ => none
  | _, _ => none⟩
attribute [go_sem] FM.known
theorem ok_impl_known : FM.known.ok Tryz.prog 57 := by
  intro args rin res rout p hm hp
  simp only [FM.known] at hm
  split at hm
  · split at hm
    · rename_i m n prf h1 h2 h3
      cases hm
      obtain ⟨g1, g2⟩ := hp
      obtain ⟨m, rfl⟩ := Int.eq_ofNat_of_zero_le g1.1
      obtain ⟨n, rfl⟩ := Int.eq_ofNat_of_zero_le (show 0 ≤ n by omega)
      exact (o_known m n prf (by omega) g2).weaken (.cons ((eInt .i64).ok _ _ h1) (.cons ((eInt .i64).ok _ _ h2) (.cons ((eList cDigest).ok _ _ h3) .nil)))
    · cases hm
  · cases hm

/-- What a node has by digests that are known. -/
def digW (M : NodeMap) (lo hi : Nat) : Digest := match findN M ((lo : Int), (hi : Int)) with
  | some d => d
  | none => if h : 2 ≤ hi - lo then pairH (digW M lo (lo + splitN (hi - lo))) (digW M (lo + splitN (hi - lo)) hi) else (0, 0, 0, 0)
termination_by hi - lo
decreasing_by
  · have := splitN_lt h; omega
  · have := splitN_pos (hi - lo); omega
theorem digW_at {M : NodeMap} {lo hi : Nat} {d : Digest} (h : findN M ((lo : Int), (hi : Int)) = some d) : digW M lo hi = d := by rw [digW, h]
theorem digW_mid {M : NodeMap} {lo hi : Nat} (h : findN M ((lo : Int), (hi : Int)) = none) (h2 : 2 ≤ hi - lo) : digW M lo hi = pairH (digW M lo (lo + splitN (hi - lo))) (digW M (lo + splitN (hi - lo)) hi) := by
  rw [digW, h]
  exact dif_pos h2
inductive Cov (M : NodeMap) : Nat → Nat → Prop
  | at {lo hi : Nat} {d : Digest} (h : findN M ((lo : Int), (hi : Int)) = some d) : Cov M lo hi
  | mid {lo hi : Nat} (h : 2 ≤ hi - lo) (a : Cov M lo (lo + splitN (hi - lo))) (b : Cov M (lo + splitN (hi - lo)) hi) : Cov M lo hi
def nmD : List (Value × Value) → Option NodeMap
  | [] => some []
  | (.agg ⟨[.int .i64 a, .int .i64 b]⟩, .agg ⟨[.int .u64 p, .int .u64 q, .int .u64 r, .int .u64 s]⟩) :: es => match nmD es with
    | some M => some (((a, b), (UInt64.ofNat p.toNat, UInt64.ofNat q.toNat, UInt64.ofNat r.toNat, UInt64.ofNat s.toNat)) :: M)
    | none => none
  | _ => none
@[go_sem] theorem nmD_V (M : NodeMap) : nmD (nmV M) = some M := by
  induction M with
  | nil => rfl
  | cons e M ih =>
    show (match nmD (nmV M) with
      | some N => some (((e.1.1, e.1.2), (UInt64.ofNat (e.2.1.toNat : Int).toNat, UInt64.ofNat (e.2.2.1.toNat : Int).toNat, UInt64.ofNat (e.2.2.2.1.toNat : Int).toNat, UInt64.ofNat (e.2.2.2.2.toNat : Int).toNat)) :: N)
      | none => none) = _
    rw [ih]
    simp
def FM.digN (N : Nat) : FM := ⟨[], fun args rin => match args, rin with
  | [.x (.o (.p (0, 0) 0 0 0)), e2], [.mp es] => match (CE.st cNode).dec e2, nmD es with
    | some x, some M => some ((CE.st cDigest).enc (digW M x.1.toNat x.2.toNat), [some (.mp es)], es = nmV M ∧ x.2.toNat - x.1.toNat < N ∧ (0 ≤ x.1 ∧ x.1 < x.2 ∧ x.2 ≤ 256) ∧ Cov M x.1.toNat x.2.toNat)
    | _, _ => none
  | _, _ => none⟩
attribute [go_sem] FM.digN
@[go_sem] theorem zvE_dig : zvE Tryz.prog 25 = some (.x (.a [.c (.v (.int .u64 0)), .c (.v (.int .u64 0)), .c (.v (.int .u64 0)), .c (.v (.int .u64 0))])) := by kernel_rfl
def H_impl_digestBy (N : Nat) : Hint := { fs := [(59, MHalves), (60, (FM.digN N)), (69, MPairH)], kp := [(0, [0, 1]), (1, [0, 3, 4]), (2, [0, 3, 4, 5, 6]), (3, [4, 5]), (4, [0, 3, 4]), (5, [0, 4, 7, 8])], an := [(5, [0, 0, 3, 0, 0, 31, 63, 127])] }
attribute [go_sem] H_impl_digestBy
theorem ok_H_impl_digestBy (N : Nat) (ih : (FM.digN N).ok Tryz.prog 60) : (H_impl_digestBy N).ok Tryz.prog := AllOk.okR (.cons ok_impl_node_halves (.cons ih (.cons ok_impl_HashPair .nil))) .nil mix
theorem f_digestBy (N : Nat) (ih : (FM.digN N).ok Tryz.prog 60) (lo hi : Nat) (M : NodeMap) (h0 : hi - lo < N + 1) (h1 : lo < hi) (h2 : hi ≤ 256) (hc : Cov M lo hi) : VFun Tryz.prog 60 [.x (.o (.p (0, 0) 0 0 0)), (CE.st cNode).enc ((lo : Int), (hi : Int))] [some (.mp (nmV M))] ((CE.st cDigest).enc (digW M lo hi)) [some (.mp (nmV M))] := by
  refine VFun_own (rin := [.mp (nmV M)]) (n := 29) (rs := [.cell 4 25]) Tryz.func60 rfl rfl rfl rfl (H_impl_digestBy N) (ok_H_impl_digestBy N ih) (Nat.le_of_ble_eq_true rfl) (by kernel_rfl) ?_
  cases hf : findN M ((lo : Int), (hi : Int)) with
  | some d =>
    obtain ⟨i, hi'⟩ := mfind_at hf
    rw [digW_at hf]
    simp only [go_sem, ↓reduceIte, reduceCtorEq, Nat.reduceAdd, Nat.reduceMul, Nat.reduceEqDiff, Nat.reduceSub, Nat.reduceLT, Nat.reduceLeDiff, Nat.reduceAnd, Nat.reduceShiftRight, Nat.reduceBEq, Nat.reduceBNe, Nat.reduceBneDiff, Nat.reduceBeqDiff, Int.reduceToNat, Int.reduceLE, Int.reduceLT, Int.reduceEq, hi']
  | none =>
    cases hc with
    | «at» h => rw [hf] at h; cases h
    | mid h3 a b =>
      rw [digW_mid hf h3]
      have hs : splitM ((hi : Int) - (lo : Int)) = (splitN (hi - lo) : Nat) := by
        rw [show (hi : Int) - (lo : Int) = ((hi - lo : Nat) : Int) by omega]
        exact splitM_in (by omega) (by omega)
      have hh : halvesM ((lo : Int), (hi : Int)) = (((lo : Int), ((lo + splitN (hi - lo) : Nat) : Int)), (((lo + splitN (hi - lo) : Nat) : Int), (hi : Int))) := by
        unfold halvesM
        dsimp only
        rw [hs]; rfl
      have k1 := splitN_lt h3
      have k2 := splitN_pos (hi - lo)
      simp only [go_sem, ↓reduceIte, reduceCtorEq, Nat.reduceAdd, Nat.reduceMul, Nat.reduceEqDiff, Nat.reduceSub, Nat.reduceLT, Nat.reduceLeDiff, Nat.reduceAnd, Nat.reduceShiftRight, Nat.reduceBEq, Nat.reduceBNe, Nat.reduceBneDiff, Nat.reduceBeqDiff, Int.reduceToNat, Int.reduceLE, Int.reduceLT, Int.reduceEq, mfind_no hf, hh]
      (repeat' apply And.intro) <;> first | omega | assumption | rfl
theorem digN_ok : ∀ N, (FM.digN N).ok Tryz.prog 60
  | 0 => by
    intro args rin res rout p hm hp
    simp only [FM.digN] at hm
    split at hm
    · split at hm
      · cases hm; exact absurd hp.2.1 (by omega)
      · cases hm
    · cases hm
  | N + 1 => by
    have ih := digN_ok N
    intro args rin res rout p hm hp
    simp only [FM.digN] at hm
    split at hm
    · split at hm
      · rename_i x M hx hM
        cases hm
        obtain ⟨rfl, h0, h1, h2⟩ := hp
        obtain ⟨lo, hi⟩ := x
        dsimp only at h0 h1 h2
        obtain ⟨lo, rfl⟩ := Int.eq_ofNat_of_zero_le h1.1
        obtain ⟨hi, rfl⟩ := Int.eq_ofNat_of_zero_le (show 0 ≤ hi by omega)
        exact (f_digestBy N ih lo hi M h0 (by omega) (by omega) h2).weaken (.cons (fun _ _ _ _ _ h => h) (.cons ((CE.st cNode).ok _ _ hx) .nil))
      · cases hm
    · cases hm
abbrev MDigBy : FM := FM.digN 1000
attribute [go_sem] MDigBy
theorem ok_impl_digestBy : MDigBy.ok Tryz.prog 60 := digN_ok 1000

theorem zip_has {xs : List (Int × Int)} {ds : List Digest} (h : xs.length ≤ ds.length) {x : Int × Int} (hx : x ∈ xs) : ∃ d, findN (xs.zip ds) x = some d := by
  obtain ⟨i, hi, he⟩ := List.mem_iff_getElem.1 hx
  have hl : i < (xs.zip ds).length := by rw [List.length_zip]; omega
  refine findN_has ⟨(xs.zip ds)[i]'hl, List.getElem_mem hl, ?_⟩
  rw [List.getElem_zip]
  exact he
theorem cov_fall (M : NodeMap) (lo hi m : Nat) (hlt : lo < hi) (h : ∀ x ∈ fallO lo hi m ++ fallF lo hi m, ∃ d, findN M (nodeI x) = some d) : Cov M lo hi := by
  induction hd : hi - lo using Nat.strongRecOn generalizing lo hi with
  | _ n ih =>
    subst hd
    by_cases h1 : hi ≤ m
    · rw [fallO_old h1] at h
      obtain ⟨d, hd⟩ := h (lo, hi) (by simp)
      exact .at hd
    by_cases h2 : m ≤ lo
    · rw [fallF_new h1 h2] at h
      obtain ⟨d, hd⟩ := h (lo, hi) (by simp)
      exact .at hd
    rw [fallO_mid h1 h2, fallF_mid h1 h2] at h
    have k1 := splitN_lt (n := hi - lo) (by omega)
    have k2 := splitN_pos (hi - lo)
    refine .mid (by omega) (ih _ (by omega) lo _ (by omega) (fun x hx => h x ?_) rfl) (ih _ (by omega) _ hi (by omega) (fun x hx => h x ?_) rfl)
    · rcases List.mem_append.1 hx with hx | hx <;> simp [hx]
    · rcases List.mem_append.1 hx with hx | hx <;> simp [hx]
theorem cov_nodes {m n : Nat} {ds : List Digest} (h : 0 < n) (hl : (nodesI m n).length ≤ ds.length) : Cov ((nodesI m n).zip ds) 0 n := by
  refine cov_fall _ 0 n m h fun x hx => zip_has hl ?_
  rw [nodesI_map]
  exact List.mem_map_of_mem hx
theorem dig_run {M : NodeMap} {l : List ByteArray} (hM : ∀ (a b : Nat) (d : Digest), findN M ((a : Int), (b : Int)) = some d → d = runM l (a, b)) {lo hi : Nat} (hc : Cov M lo hi) (hl : hi ≤ l.length) : digW M lo hi = runM l (lo, hi) := by
  induction hc with
  | «at» h => rw [digW_at h]; exact hM _ _ _ h
  | @mid lo hi h2 a b iha ihb =>
    have k1 := splitN_lt h2
    cases hf : findN M ((lo : Int), (hi : Int)) with
    | some d => rw [digW_at hf]; exact hM _ _ _ hf
    | none => rw [digW_mid hf h2, iha (by omega), ihb hl, runM_split (a := lo) (n := hi) (by omega) hl]
theorem zip_run (l : List ByteArray) (ns : List (Nat × Nat)) (a b : Nat) (d : Digest) (h : findN ((ns.map nodeI).zip (ns.map (runM l))) ((a : Int), (b : Int)) = some d) : d = runM l (a, b) := by
  have h1 := findN_mem h
  rw [List.zip_map, List.mem_map] at h1
  obtain ⟨⟨x, y⟩, hx, he⟩ := h1
  have hxy : x = y := by
    obtain ⟨i, hi, he⟩ := List.mem_iff_getElem.1 hx
    rw [List.getElem_zip] at he
    cases he; rfl
  subst hxy
  have e1 : nodeI x = nodeI (a, b) := congrArg Prod.fst he
  have e2 : runM l x = d := congrArg Prod.snd he
  rw [← e2, nodeI_inj e1]

theorem digEq (x y : Digest) : (decide (x.1 = y.1) && (decide (x.2.1 = y.2.1) && (decide (x.2.2.1 = y.2.2.1) && decide (x.2.2.2 = y.2.2.2)))) = decide (x = y) := by
  obtain ⟨a, b, c, d⟩ := x
  obtain ⟨e, f, g, h⟩ := y
  rw [Bool.eq_iff_iff]
  simp only [Bool.and_eq_true, decide_eq_true_eq, Prod.mk.injEq]
/-- Whether a proof shows a growth. -/
def grcM (o w : Point) (prf : List Digest) : Int :=
  if ¬ ((0 ≤ o.1 ∧ o.1 ≤ w.1) ∧ w.1 ≤ 256) then 1
  else if (prf.length : Int) ≠ glM o.1 w.1 then 2
  else if o.1 = 0 ∧ o.2 ≠ hashOf ⟨#[]⟩ ∨ (0 < o.1 ∧ o.1 < w.1) ∧ peaksR (prf.take (pcM o.1).toNat) ≠ o.2 then 3
  else if o.1 = w.1 ∧ o.2 ≠ w.2 ∨ (0 < o.1 ∧ o.1 < w.1) ∧ digW ((nodesI o.1.toNat w.1.toNat).zip prf) 0 w.1.toNat ≠ w.2 then 4
  else 0
abbrev MGrc : FM := .f3 (CE.st cPoint) (CE.st cPoint) (eList cDigest) (eInt .i64).enc grcM (fun _ _ p => p.length ≤ 1048576)
attribute [go_sem] MGrc
def H_impl_GrowthCheck : Hint := { fs := [(36, MHashOf), (53, MSizes), (55, MGLen), (57, FM.known), (60, MDigBy), (63, MPeaksC), (67, MPeaksR)], kp := [(0, [0, 1, 2]), (1, [2, 3, 4]), (2, [2, 3, 4, 7, 8]), (3, [2, 3, 4, 7, 8, 9]), (4, []), (5, [2, 3, 4, 7, 8, 9]), (6, []), (7, [2, 3, 4, 7, 8, 9]), (8, []), (9, [2, 3, 4, 7, 8, 9]), (10, []), (11, [])], an := [(1, [0, 1, 0, 4, 3, 31]), (7, [0, 1, 3, 7, 15, 7, 63, 127, 255, 511, 1023, 2047, 2047, 6143, 16383, 32767, 2047, 67583, 262143, 524287, 1048575, 2097151]), (9, [0, 0, 3, 7, 15, 31, 15, 79, 255, 511, 1023, 2047, 4095, 8191, 8191, 8191, 65535, 8191, 139263, 524287, 8191, 1056767, 4194303, 8388607, 16777215, 33554431])] }
attribute [go_sem] H_impl_GrowthCheck
theorem ok_H_impl_GrowthCheck : H_impl_GrowthCheck.ok Tryz.prog := AllOk.okR (.cons ok_impl_HashOf (.cons ok_impl_mayGrow (.cons ok_impl_GrowthLen (.cons ok_impl_known (.cons ok_impl_digestBy (.cons ok_impl_PeaksCount (.cons ok_PeaksRoot .nil))))))) .nil mix
theorem f_impl_GrowthCheck (o w : Point) (prf : List Digest) (hp : prf.length ≤ 1048576) : VFun Tryz.prog 28 [(CE.st cPoint).enc o, (CE.st cPoint).enc w, (eList cDigest).enc prf] [] ((eInt .i64).enc (grcM o w prf)) [] := by
  obtain ⟨m, r⟩ := o
  obtain ⟨n, s⟩ := w
  refine VFun_pure (n := 81) (rs := [.tmp 6]) Tryz.func28 rfl rfl rfl rfl H_impl_GrowthCheck ok_H_impl_GrowthCheck _ _ (Nat.le_of_ble_eq_true rfl) (by kernel_rfl) ?_
  by_cases h1 : (0 ≤ m ∧ m ≤ n) ∧ n ≤ 256
  case neg =>
    rw [grcM, if_pos h1]
    simp only [go_sem, ↓reduceIte, reduceCtorEq, Nat.reduceAdd, Nat.reduceMul, Nat.reduceEqDiff, Nat.reduceSub, Nat.reduceLT, Nat.reduceLeDiff, Nat.reduceAnd, Nat.reduceShiftRight, Nat.reduceBEq, Nat.reduceBNe, Nat.reduceBneDiff, Nat.reduceBeqDiff, Int.reduceToNat, Int.reduceLE, Int.reduceLT, Int.reduceEq, h1]
    exact ite_intro (fun _ => trivial) fun _ => trivial
  by_cases h2 : (prf.length : Int) = glM m n
  case neg =>
    rw [grcM, if_neg (fun h => h h1), if_pos h2]
    simp only [go_sem, ↓reduceIte, reduceCtorEq, Nat.reduceAdd, Nat.reduceMul, Nat.reduceEqDiff, Nat.reduceSub, Nat.reduceLT, Nat.reduceLeDiff, Nat.reduceAnd, Nat.reduceShiftRight, Nat.reduceBEq, Nat.reduceBNe, Nat.reduceBneDiff, Nat.reduceBeqDiff, Int.reduceToNat, Int.reduceLE, Int.reduceLT, Int.reduceEq, h1, h2]
    exact ite_intro (fun _ => trivial) fun _ => trivial
  by_cases hm : 0 < m ∧ m < n
  · obtain ⟨m, rfl⟩ := Int.eq_ofNat_of_zero_le (show 0 ≤ m by omega)
    obtain ⟨n, rfl⟩ := Int.eq_ofNat_of_zero_le (show 0 ≤ n by omega)
    have hl : prf.length = (nodesI m n).length := by
      rw [glM, if_pos h1, if_neg (by omega), Int.toNat_natCast, Int.toNat_natCast] at h2
      rw [nodesI, List.length_append]
      omega
    obtain ⟨hk, hk8⟩ := peaks_len (m := m) (by omega)
    have hkl : (peaksN 0 m).length ≤ prf.length := by
      rw [hl, nodesI_map, List.length_map, List.length_append, fallO_peaks 0 n m (by omega) (by omega)]
      omega
    have hcov := cov_nodes (m := m) (n := n) (ds := prf) (by omega) (by omega)
    have c0 : ((m : Int) = 0) = False := eq_false (by omega)
    have cn : ((m : Int) = (n : Int)) = False := eq_false (by omega)
    have hg : grcM ((m : Int), r) ((n : Int), s) prf = if peaksR (prf.take (peaksN 0 m).length) = r then (if digW ((nodesI m n).zip prf) 0 n = s then 0 else 4) else 3 := by
      rw [grcM, if_neg (fun h => h h1), if_neg (fun h => h h2)]
      simp only [hk, Int.toNat_natCast, c0, cn, hm, false_and, false_or, true_and, and_self, ne_eq, ite_not]
    rw [hg]
    have hp1 : ((pcM (m : Int))).toNat = (peaksN 0 m).length := by rw [hk]; rfl
    have hz : (prf.take (peaksN 0 m).length).length ≤ 1048576 := by rw [List.length_take]; omega
    by_cases g1 : peaksR (prf.take (peaksN 0 m).length) = r
    case neg =>
      rw [if_neg g1]
      simp only [go_sem, ↓reduceIte, reduceCtorEq, Nat.reduceAdd, Nat.reduceMul, Nat.reduceEqDiff, Nat.reduceSub, Nat.reduceLT, Nat.reduceLeDiff, Nat.reduceAnd, Nat.reduceShiftRight, Nat.reduceBEq, Nat.reduceBNe, Nat.reduceBneDiff, Nat.reduceBeqDiff, Int.reduceToNat, Int.reduceLE, Int.reduceLT, Int.reduceEq, h1, h2, hm, c0, cn, hk, digEq, decide_eq_false g1]
      exact ⟨by omega, hz⟩
    rw [if_pos g1]
    by_cases g2 : digW ((nodesI m n).zip prf) 0 n = s
    · rw [if_pos g2]
      simp only [go_sem, ↓reduceIte, reduceCtorEq, Nat.reduceAdd, Nat.reduceMul, Nat.reduceEqDiff, Nat.reduceSub, Nat.reduceLT, Nat.reduceLeDiff, Nat.reduceAnd, Nat.reduceShiftRight, Nat.reduceBEq, Nat.reduceBNe, Nat.reduceBneDiff, Nat.reduceBeqDiff, Int.reduceToNat, Int.reduceLE, Int.reduceLT, Int.reduceEq, h1, h2, hm, c0, cn, hk, digEq, decide_eq_true g1, decide_eq_true g2]
      exact ⟨by omega, hz, ⟨by omega, hl⟩, by omega, by omega, hcov⟩
    · rw [if_neg g2]
      simp only [go_sem, ↓reduceIte, reduceCtorEq, Nat.reduceAdd, Nat.reduceMul, Nat.reduceEqDiff, Nat.reduceSub, Nat.reduceLT, Nat.reduceLeDiff, Nat.reduceAnd, Nat.reduceShiftRight, Nat.reduceBEq, Nat.reduceBNe, Nat.reduceBneDiff, Nat.reduceBeqDiff, Int.reduceToNat, Int.reduceLE, Int.reduceLT, Int.reduceEq, h1, h2, hm, c0, cn, hk, digEq, decide_eq_true g1, decide_eq_false g2]
      exact ⟨by omega, hz, ⟨by omega, hl⟩, by omega, by omega, hcov⟩
  · have hg : grcM (m, r) (n, s) prf = if m = 0 ∧ r ≠ hashOf ⟨#[]⟩ then 3 else if m = n ∧ r ≠ s then 4 else 0 := by
      rw [grcM, if_neg (fun h => h h1), if_neg (fun h => h h2)]
      simp only [hm, false_and, or_false]
    rw [hg]
    by_cases hm0 : m = 0
    · have c0 : (0 < m) = False := eq_false (by omega)
      by_cases hr : r = hashOf ⟨#[]⟩
      · by_cases hn : m = n
        · have cn : (m < n) = False := eq_false (by omega)
          by_cases hs : r = s
          · rw [if_neg (fun h => h.2 hr), if_neg (fun h => h.2 hs)]
            simp only [go_sem, ↓reduceIte, reduceCtorEq, Nat.reduceAdd, Nat.reduceMul, Nat.reduceEqDiff, Nat.reduceSub, Nat.reduceLT, Nat.reduceLeDiff, Nat.reduceAnd, Nat.reduceShiftRight, Nat.reduceBEq, Nat.reduceBNe, Nat.reduceBneDiff, Nat.reduceBeqDiff, Int.reduceToNat, Int.reduceLE, Int.reduceLT, Int.reduceEq, h1, h2, eq_true hm0, c0, digEq, decide_eq_true hr, eq_true hn, cn, decide_eq_true hs]
          · rw [if_neg (fun h => h.2 hr), if_pos ⟨hn, hs⟩]
            simp only [go_sem, ↓reduceIte, reduceCtorEq, Nat.reduceAdd, Nat.reduceMul, Nat.reduceEqDiff, Nat.reduceSub, Nat.reduceLT, Nat.reduceLeDiff, Nat.reduceAnd, Nat.reduceShiftRight, Nat.reduceBEq, Nat.reduceBNe, Nat.reduceBneDiff, Nat.reduceBeqDiff, Int.reduceToNat, Int.reduceLE, Int.reduceLT, Int.reduceEq, h1, h2, eq_true hm0, c0, digEq, decide_eq_true hr, eq_true hn, cn, decide_eq_false hs]
        · rw [if_neg (fun h => h.2 hr), if_neg (fun h => hn h.1)]
          have cn : (m < n) = True := eq_true (by omega)
          simp only [go_sem, ↓reduceIte, reduceCtorEq, Nat.reduceAdd, Nat.reduceMul, Nat.reduceEqDiff, Nat.reduceSub, Nat.reduceLT, Nat.reduceLeDiff, Nat.reduceAnd, Nat.reduceShiftRight, Nat.reduceBEq, Nat.reduceBNe, Nat.reduceBneDiff, Nat.reduceBeqDiff, Int.reduceToNat, Int.reduceLE, Int.reduceLT, Int.reduceEq, h1, h2, eq_true hm0, c0, digEq, decide_eq_true hr, hn, cn]
      · rw [if_pos ⟨hm0, hr⟩]
        simp only [go_sem, ↓reduceIte, reduceCtorEq, Nat.reduceAdd, Nat.reduceMul, Nat.reduceEqDiff, Nat.reduceSub, Nat.reduceLT, Nat.reduceLeDiff, Nat.reduceAnd, Nat.reduceShiftRight, Nat.reduceBEq, Nat.reduceBNe, Nat.reduceBneDiff, Nat.reduceBeqDiff, Int.reduceToNat, Int.reduceLE, Int.reduceLT, Int.reduceEq, h1, h2, eq_true hm0, c0, digEq, decide_eq_false hr]
    · have c0 : (0 < m) = True := eq_true (by omega)
      have hn : m = n := by omega
      have cn : (m < n) = False := eq_false (by omega)
      by_cases hs : r = s
      · rw [if_neg (fun h => hm0 h.1), if_neg (fun h => h.2 hs)]
        simp only [go_sem, ↓reduceIte, reduceCtorEq, Nat.reduceAdd, Nat.reduceMul, Nat.reduceEqDiff, Nat.reduceSub, Nat.reduceLT, Nat.reduceLeDiff, Nat.reduceAnd, Nat.reduceShiftRight, Nat.reduceBEq, Nat.reduceBNe, Nat.reduceBneDiff, Nat.reduceBeqDiff, Int.reduceToNat, Int.reduceLE, Int.reduceLT, Int.reduceEq, h1, h2, hm0, c0, digEq, eq_true hn, cn, decide_eq_true hs]
      · rw [if_neg (fun h => hm0 h.1), if_pos ⟨hn, hs⟩]
        simp only [go_sem, ↓reduceIte, reduceCtorEq, Nat.reduceAdd, Nat.reduceMul, Nat.reduceEqDiff, Nat.reduceSub, Nat.reduceLT, Nat.reduceLeDiff, Nat.reduceAnd, Nat.reduceShiftRight, Nat.reduceBEq, Nat.reduceBNe, Nat.reduceBneDiff, Nat.reduceBeqDiff, Int.reduceToNat, Int.reduceLE, Int.reduceLT, Int.reduceEq, h1, h2, hm0, c0, digEq, eq_true hn, cn, decide_eq_false hs]
theorem ok_impl_GrowthCheck : MGrc.ok Tryz.prog 28 := FM.f3_ok fun o w p h => f_impl_GrowthCheck o w p h

def treePt (l : List ByteArray) : Point := if leavesOk l then ((l.length : Int), rootM l) else (0, 0, 0, 0, 0)
def treeRt (l : List ByteArray) : Digest := if leavesOk l then rootM l else (0, 0, 0, 0)
abbrev MTreePoint : FM := .f1 (eList cStr) (CE.st cPoint).enc treePt (fun l => l.length ≤ 1048576)
abbrev MTreeRoot : FM := .f1 (eList cStr) (CE.st cDigest).enc treeRt (fun l => l.length ≤ 1048576)
attribute [go_sem] MTreePoint MTreeRoot

def H_spec_TreePoint : Hint := { fs := [(46, MRoot), (87, MLeavesOk)], kp := [(0, [0]), (1, [0, 2]), (2, [2]), (3, [0, 2])], an := [] }
attribute [go_sem] H_spec_TreePoint
theorem ok_H_spec_TreePoint : H_spec_TreePoint.ok Tryz.prog := AllOk.okR (.cons ok_l2Root (.cons ok_spec_LeavesOk .nil)) .nil mix
theorem f_spec_TreePoint (l : List ByteArray) (h : l.length ≤ 1048576) : VFun Tryz.prog 41 [(eList cStr).enc l] [] ((CE.st cPoint).enc (treePt l)) [] := by
  refine VFun_pure (n := 12) (rs := [.cell 2 27]) Tryz.func41 rfl rfl rfl rfl H_spec_TreePoint ok_H_spec_TreePoint _ _ (Nat.le_of_ble_eq_true rfl) (by kernel_rfl) ?_
  by_cases hk : leavesOk l = true
  · rw [treePt, if_pos hk]
    simp only [go_sem, ↓reduceIte, reduceCtorEq, Nat.reduceAdd, Nat.reduceMul, Nat.reduceEqDiff, Nat.reduceSub, Nat.reduceLT, Nat.reduceLeDiff, Nat.reduceAnd, Nat.reduceShiftRight, Nat.reduceBEq, Nat.reduceBNe, Nat.reduceBneDiff, Nat.reduceBeqDiff, Int.reduceToNat, Int.reduceLE, Int.reduceLT, Int.reduceEq, hk]
    exact ⟨h, leavesOk_iff hk⟩
  · have hk' : leavesOk l = false := by simpa using hk
    rw [treePt, if_neg hk]
    simp only [go_sem, ↓reduceIte, reduceCtorEq, Nat.reduceAdd, Nat.reduceMul, Nat.reduceEqDiff, Nat.reduceSub, Nat.reduceLT, Nat.reduceLeDiff, Nat.reduceAnd, Nat.reduceShiftRight, Nat.reduceBEq, Nat.reduceBNe, Nat.reduceBneDiff, Nat.reduceBeqDiff, Int.reduceToNat, Int.reduceLE, Int.reduceLT, Int.reduceEq, hk']
    exact h
theorem ok_spec_TreePoint : MTreePoint.ok Tryz.prog 41 := FM.f1_ok fun l h => f_spec_TreePoint l h

theorem leavesOk_take {l : List ByteArray} (h : leavesOk l = true) (n : Nat) : leavesOk (l.take n) = true := by
  have hl := leavesOk_iff h
  rw [leavesOk_good fun i x _ hx => by have := hl.2 x (List.mem_of_mem_take (List.mem_of_getElem? hx)); omega]
  exact decide_eq_true (by rw [List.length_take]; omega)
theorem runM_all (l : List ByteArray) (n : Nat) : runM l (0, n) = rootM (l.take n) := by unfold runM; rw [List.drop_zero, Nat.sub_zero]
/-- An honest proof shows a growth. -/
theorem grc_honest {l : List ByteArray} (h : leavesOk l = true) {m n : Nat} (hm : m ≤ n) (hn : n ≤ l.length) : grcM (treePt (l.take m)) (treePt (l.take n)) (growM (l.take n) m).1 = 0 := by
  have hl := leavesOk_iff h
  have hL := leavesOk_take h n
  have e1 : (l.take n).length = n := by rw [List.length_take]; omega
  have e2 : (l.take m).length = m := by rw [List.length_take]; omega
  have e3 : (l.take n).take m = l.take m := by rw [List.take_take, Nat.min_eq_left hm]
  have h1 : (0 ≤ (m : Int) ∧ (m : Int) ≤ (n : Int)) ∧ (n : Int) ≤ 256 := by omega
  rw [treePt, if_pos (leavesOk_take h m), treePt, if_pos hL, e1, e2]
  by_cases hmn : m = 0 ∨ m = n
  · have hg : (growM (l.take n) m).1 = [] := by rw [growM_e hL (by omega) (by rw [e1]; omega) (by rw [e1]; omega)]
    rw [hg, grcM, if_neg (fun h => h h1), if_neg (fun h => h (by rw [glM, if_pos h1, if_pos (by dsimp only; omega)]; rfl))]
    rw [if_neg, if_neg]
    · rintro (⟨a, b⟩ | ⟨a, b⟩)
      · dsimp only at a b
        have : m = n := by omega
        subst this
        exact b rfl
      · dsimp only at a; omega
    · rintro (⟨a, b⟩ | ⟨a, b⟩)
      · dsimp only at a b
        have : m = 0 := by omega
        subst this
        exact b (by rw [List.take_zero, rootM_0])
      · dsimp only at a; omega
  · have hg : (growM (l.take n) m).1 = (fallO 0 n m ++ fallF 0 n m).map (runM (l.take n)) := by rw [growM_s hL (by omega) (by rw [e1]; omega), e1]
    have hz : (fallO 0 n m ++ fallF 0 n m).length = (oldI 0 n m).length + (newI 0 n m).length := by rw [List.length_append, oldI, newI, List.length_map, List.length_map]
    rw [hg, grcM, if_neg (fun h => h h1), if_neg (fun h => h (by rw [glM, if_pos h1, if_neg (by dsimp only; omega), List.length_map, hz]; rfl))]
    obtain ⟨hk, hk8⟩ := peaks_len (m := m) (by omega)
    have ht : ((fallO 0 n m ++ fallF 0 n m).map (runM (l.take n))).take (peaksN 0 m).length = (peaksN 0 m).map (runM (l.take n)) := by
      rw [List.map_append, fallO_peaks 0 n m (by omega) (by omega), List.take_append_of_le_length (by rw [List.length_map]; omega), List.take_of_length_le (by rw [List.length_map]; omega)]
    rw [if_neg, if_neg]
    · rintro (⟨a, b⟩ | ⟨a, b⟩)
      · dsimp only at a; omega
      · refine b ?_
        dsimp only
        rw [Int.toNat_natCast, Int.toNat_natCast, nodesI_map]
        rw [dig_run (l := l.take n) (fun a b d hd => zip_run _ _ a b d hd) ?_ (by omega), runM_all, List.take_of_length_le (by omega)]
        rw [← nodesI_map]
        exact cov_nodes (by omega) (by rw [nodesI_map, List.length_map, List.length_map]; omega)
    · rintro (⟨a, b⟩ | ⟨a, b⟩)
      · dsimp only at a; omega
      · refine b ?_
        dsimp only
        rw [hk, Int.toNat_natCast, ht, peaksR_run _ m (by omega) 0 (by omega) hk8, runM_all, e3]

end Go.Proofs.YtcgkhljolflenaaGreatW.V

