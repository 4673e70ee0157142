/- Functions: the reference checks the proof of a growth as the program does. No condition but each theorem's own. -/
import Derived.Test.YtcgkhljolflenaaGreatFGP
namespace Go.Proofs.YtcgkhljolflenaaGreatW.V
open Go Go.Proofs
set_option linter.unusedSimpArgs false
set_option linter.unusedVariables false
set_option maxRecDepth 8000
set_option maxHeartbeats 4000000

set_option synthInstance.maxSize 1000

/-! Nodes stand in order. -/
theorem fall_side (lo hi m : Nat) (hlt : lo < hi) : (∀ x ∈ fallO lo hi m, x.2 ≤ m) ∧ ∀ x ∈ fallF lo hi m, m ≤ x.1 := by
  induction hd : hi - lo using Nat.strongRecOn generalizing lo hi with
  | _ n ih =>
    subst hd
    by_cases h : hi ≤ m
    · rw [fallO_old h, fallF_old h]; exact ⟨by simp [h], by simp⟩
    by_cases h2 : m ≤ lo
    · rw [fallO_new h h2, fallF_new h h2]; exact ⟨by simp, by simp [h2]⟩
    rw [fallO_mid h h2, fallF_mid h h2]
    have k1 := splitN_lt (n := hi - lo) (by omega)
    have k2 := splitN_pos (hi - lo)
    obtain ⟨a1, a2⟩ := ih _ (by omega) lo (lo + splitN (hi - lo)) (by omega) rfl
    obtain ⟨b1, b2⟩ := ih _ (by omega) (lo + splitN (hi - lo)) hi (by omega) rfl
    exact ⟨fun x hx => (List.mem_append.1 hx).elim (a1 x) (b1 x), fun x hx => (List.mem_append.1 hx).elim (a2 x) (b2 x)⟩
theorem fall_sorted (lo hi m : Nat) (hlt : lo < hi) : (fallO lo hi m).Pairwise (fun x y => x.1 < y.1) ∧ (fallF lo hi m).Pairwise (fun x y => x.1 < y.1) := by
  induction hd : hi - lo using Nat.strongRecOn generalizing lo hi with
  | _ n ih =>
    subst hd
    by_cases h : hi ≤ m
    · rw [fallO_old h, fallF_old h]; simp
    by_cases h2 : m ≤ lo
    · rw [fallO_new h h2, fallF_new h h2]; simp
    rw [fallO_mid h h2, fallF_mid h h2]
    have k1 := splitN_lt (n := hi - lo) (by omega)
    have k2 := splitN_pos (hi - lo)
    obtain ⟨a1, a2⟩ := ih _ (by omega) lo (lo + splitN (hi - lo)) (by omega) rfl
    obtain ⟨b1, b2⟩ := ih _ (by omega) (lo + splitN (hi - lo)) hi (by omega) rfl
    obtain ⟨c1, c2, -⟩ := fall_in lo (lo + splitN (hi - lo)) m (by omega)
    obtain ⟨d1, d2, -⟩ := fall_in (lo + splitN (hi - lo)) hi m (by omega)
    exact ⟨List.pairwise_append.2 ⟨a1, b1, fun x hx y hy => by have := c1 x hx; have := d1 y hy; omega⟩, List.pairwise_append.2 ⟨a2, b2, fun x hx y hy => by have := c2 x hx; have := d2 y hy; omega⟩⟩
theorem count_0 {L : List (Nat × Nat)} {t : Nat} (h : ∀ x ∈ L, t ≤ x.1) : L.countP (fun x => decide (x.1 < t)) = 0 :=
  List.countP_eq_zero.2 fun x hx => by have := h x hx; simp; omega
theorem count_all {L : List (Nat × Nat)} {t : Nat} (h : ∀ x ∈ L, x.1 < t) : L.countP (fun x => decide (x.1 < t)) = L.length :=
  List.countP_eq_length.2 fun x hx => by have := h x hx; simpa using this
theorem idx_sorted {L : List (Nat × Nat)} (hs : L.Pairwise (fun x y => x.1 < y.1)) {x : Nat × Nat} (hx : x ∈ L) : L[L.countP (fun y => decide (y.1 < x.1))]? = some x := by
  induction L with
  | nil => cases hx
  | cons a L ih =>
    obtain ⟨h1, h2⟩ := List.pairwise_cons.1 hs
    rcases List.mem_cons.1 hx with rfl | hx
    · rw [List.countP_cons, count_0 fun y hy => Nat.le_of_lt (h1 y hy)]
      simp
    · have := h1 x hx
      rw [List.countP_cons, if_pos (by simpa using this), List.getElem?_cons_succ]
      exact ih h2 hx

/-- How many new nodes begin ahead of a place; how many peaks do. -/
def restC (lo hi m t : Nat) : Nat := (fallF lo hi m).countP (fun x => decide (x.1 < t))
def aheadC (m t : Nat) : Nat := (peaksN 0 m).countP (fun x => decide (x.1 < t))
theorem restC_0 {lo hi m t : Nat} (hlt : lo < hi) (h : hi ≤ m ∨ t ≤ lo) : restC lo hi m t = 0 := by
  rcases h with h | h
  · rw [restC, fallF_old h]; rfl
  · exact count_0 fun x hx => by have := (fall_in lo hi m hlt).2.1 x hx; omega
theorem restC_1 {lo hi m t : Nat} (h : ¬ (hi ≤ m ∨ t ≤ lo)) (h2 : m ≤ lo) : restC lo hi m t = 1 := by
  rw [restC, fallF_new (by omega) h2]
  simp; omega
theorem restC_s {lo hi m t : Nat} (h : ¬ (hi ≤ m ∨ t ≤ lo)) (h2 : ¬ m ≤ lo) : restC lo hi m t = restC lo (lo + splitN (hi - lo)) m t + restC (lo + splitN (hi - lo)) hi m t := by
  rw [restC, fallF_mid (by omega) h2, List.countP_append]; rfl
theorem restC_len (lo hi m t : Nat) (h : lo < hi) : restC lo hi m t ≤ hi - lo := by
  have h1 := (fall_in lo hi m h).2.2
  have h2 := List.countP_le_length (p := fun x : Nat × Nat => decide (x.1 < t)) (l := fallF lo hi m)
  unfold restC
  omega

abbrev MRestsN (N : Nat) : FM := .f4 (eInt .i64) (eInt .i64) (eInt .i64) (eInt .i64) (eInt .i64).enc (fun lo hi m t => (restC lo.toNat hi.toNat m.toNat t.toNat : Nat)) (fun lo hi m t => hi.toNat - lo.toNat < N ∧ 0 ≤ lo ∧ lo < hi ∧ hi ≤ 256 ∧ 0 ≤ m ∧ 0 ≤ t)
attribute [go_sem] MRestsN
def H_spec_l3Rests (N : Nat) : Hint := { fs := [(45, MSplit), (93, (MRestsN N))], kp := [(0, [0, 1, 2, 3]), (1, [0, 1, 2, 3]), (2, []), (3, [0, 1, 2, 3]), (4, []), (5, [0, 1, 2, 3]), (6, [0, 1, 2, 3, 9])], an := [] }
attribute [go_sem] H_spec_l3Rests
theorem ok_H_spec_l3Rests (N : Nat) (ih : (MRestsN N).ok Tryz.prog 93) : (H_spec_l3Rests N).ok Tryz.prog := AllOk.okR (.cons ok_spec_TreeSplit (.cons ih .nil)) .nil mix
theorem f_l3Rests : ∀ (N : Nat) (lo hi m t : Int), (hi.toNat - lo.toNat < N ∧ 0 ≤ lo ∧ lo < hi ∧ hi ≤ 256 ∧ 0 ≤ m ∧ 0 ≤ t) → VFun Tryz.prog 93 [(eInt .i64).enc lo, (eInt .i64).enc hi, (eInt .i64).enc m, (eInt .i64).enc t] [] ((eInt .i64).enc (restC lo.toNat hi.toNat m.toNat t.toNat : Nat)) []
  | 0, lo, hi, m, t, h => absurd h.1 (by omega)
  | N + 1, lo, hi, m, t, h => by
    have ih : (MRestsN N).ok Tryz.prog 93 := FM.f4_ok fun lo hi m t h => f_l3Rests N lo hi m t h
    obtain ⟨h0, h1, h2, h3, h4, h5⟩ := h
    obtain ⟨lo, rfl⟩ := Int.eq_ofNat_of_zero_le h1
    obtain ⟨hi, rfl⟩ := Int.eq_ofNat_of_zero_le (show 0 ≤ hi by omega)
    obtain ⟨m, rfl⟩ := Int.eq_ofNat_of_zero_le h4
    obtain ⟨t, rfl⟩ := Int.eq_ofNat_of_zero_le h5
    simp only [Int.toNat_natCast] at h0 ⊢
    have hlt : lo < hi := by omega
    refine VFun_pure (n := 38) (rs := [.tmp 8]) Tryz.func93 rfl rfl rfl rfl (H_spec_l3Rests N) (ok_H_spec_l3Rests N ih) _ _ (Nat.le_of_ble_eq_true rfl) (by kernel_rfl) ?_
    by_cases c1 : hi ≤ m
    · have d1 : ((hi : Int) ≤ (m : Int)) = True := eq_true (by omega)
      rw [restC_0 hlt (.inl c1)]
      simp only [go_sem, ↓reduceIte, reduceCtorEq, Nat.reduceAdd, Nat.reduceMul, Nat.reduceEqDiff, Nat.reduceSub, Nat.reduceLT, Nat.reduceLeDiff, Nat.reduceAnd, Nat.reduceShiftRight, Nat.reduceBEq, Nat.reduceBNe, Nat.reduceBneDiff, Nat.reduceBeqDiff, Int.reduceToNat, Int.reduceLE, Int.reduceLT, Int.reduceEq, d1]
    have d1 : ((hi : Int) ≤ (m : Int)) = False := eq_false (by omega)
    by_cases c2 : t ≤ lo
    · have d2 : ((t : Int) ≤ (lo : Int)) = True := eq_true (by omega)
      rw [restC_0 hlt (.inr c2)]
      simp only [go_sem, ↓reduceIte, reduceCtorEq, Nat.reduceAdd, Nat.reduceMul, Nat.reduceEqDiff, Nat.reduceSub, Nat.reduceLT, Nat.reduceLeDiff, Nat.reduceAnd, Nat.reduceShiftRight, Nat.reduceBEq, Nat.reduceBNe, Nat.reduceBneDiff, Nat.reduceBeqDiff, Int.reduceToNat, Int.reduceLE, Int.reduceLT, Int.reduceEq, d1, d2]
    have d2 : ((t : Int) ≤ (lo : Int)) = False := eq_false (by omega)
    by_cases c3 : m ≤ lo
    · have d3 : ((m : Int) ≤ (lo : Int)) = True := eq_true (by omega)
      rw [restC_1 (by omega) c3]
      simp only [go_sem, ↓reduceIte, reduceCtorEq, Nat.reduceAdd, Nat.reduceMul, Nat.reduceEqDiff, Nat.reduceSub, Nat.reduceLT, Nat.reduceLeDiff, Nat.reduceAnd, Nat.reduceShiftRight, Nat.reduceBEq, Nat.reduceBNe, Nat.reduceBneDiff, Nat.reduceBeqDiff, Int.reduceToNat, Int.reduceLE, Int.reduceLT, Int.reduceEq, d1, d2, d3]
      rfl
    have d3 : ((m : Int) ≤ (lo : Int)) = False := eq_false (by omega)
    have k1 := splitN_lt (n := hi - lo) (by omega)
    have k2 := splitN_pos (hi - lo)
    have w1 : IntKind.i64.wrap ((hi : Int) - (lo : Int)) = ((hi - lo : Nat) : Int) := by rw [wrap64] <;> omega
    have hs : splitM ((hi - lo : Nat) : Int) = (splitN (hi - lo) : Nat) := splitM_in (by omega) (by omega)
    have w2 : IntKind.i64.wrap ((lo : Int) + (splitN (hi - lo) : Nat)) = ((lo + splitN (hi - lo) : Nat) : Int) := by rw [wrap64] <;> omega
    have e1 := restC_len lo (lo + splitN (hi - lo)) m t (by omega)
    have e2 := restC_len (lo + splitN (hi - lo)) hi m t (by omega)
    have w3 : IntKind.i64.wrap ((restC lo (lo + splitN (hi - lo)) m t : Int) + (restC (lo + splitN (hi - lo)) hi m t : Int)) = ((restC lo (lo + splitN (hi - lo)) m t + restC (lo + splitN (hi - lo)) hi m t : Nat) : Int) := by rw [wrap64] <;> omega
    rw [restC_s (by omega) c3]
    simp only [go_sem, ↓reduceIte, reduceCtorEq, Nat.reduceAdd, Nat.reduceMul, Nat.reduceEqDiff, Nat.reduceSub, Nat.reduceLT, Nat.reduceLeDiff, Nat.reduceAnd, Nat.reduceShiftRight, Nat.reduceBEq, Nat.reduceBNe, Nat.reduceBneDiff, Nat.reduceBeqDiff, Int.reduceToNat, Int.reduceLE, Int.reduceLT, Int.reduceEq, d1, d2, d3, w1, hs, w2, w3]
    exact ⟨⟨by omega, by omega⟩, by omega, by omega⟩
abbrev MRests : FM := .f4 (eInt .i64) (eInt .i64) (eInt .i64) (eInt .i64) (eInt .i64).enc (fun lo hi m t => (restC lo.toNat hi.toNat m.toNat t.toNat : Nat)) (fun lo hi m t => 0 ≤ lo ∧ lo < hi ∧ hi ≤ 256 ∧ 0 ≤ m ∧ 0 ≤ t)
attribute [go_sem] MRests
theorem ok_spec_l3Rests : MRests.ok Tryz.prog 93 := FM.f4_ok fun lo hi m t h => f_l3Rests (hi.toNat - lo.toNat + 1) lo hi m t ⟨by omega, h⟩

theorem peaksN_from (a m : Nat) : ∀ x ∈ peaksN a m, a ≤ x.1 := by
  induction hd : m - a using Nat.strongRecOn generalizing a with
  | _ n ih =>
    subst hd
    by_cases h : a < m
    · obtain ⟨k1, k2⟩ := halfN_in h
      rw [peaksN_go h]
      intro x hx
      rcases List.mem_cons.1 hx with rfl | hx
      · exact Nat.le_refl _
      · exact Nat.le_trans (by omega) (ih _ (by omega) _ rfl x hx)
    · rw [peaksN_end (by omega)]
      intro x hx; cases hx
abbrev MAhead : FM := .f2 (eInt .i64) (eInt .i64) (eInt .i64).enc (fun m t => (aheadC m.toNat t.toNat : Nat)) (fun m t => 0 ≤ m ∧ m ≤ 256 ∧ 0 ≤ t)
attribute [go_sem] MAhead
def H_spec_l3PeaksAhead : Hint := { fs := [(106, MHalf)], kp := [(0, [0, 1]), (1, [0, 1]), (2, [0, 1, 5]), (3, [0, 1, 5, 6]), (4, [0, 1, 5, 6]), (5, [0, 1, 5, 6]), (6, [5])], an := [] }
attribute [go_sem] H_spec_l3PeaksAhead
theorem ok_H_spec_l3PeaksAhead : H_spec_l3PeaksAhead.ok Tryz.prog := AllOk.okR (.cons ok_spec_l2Half .nil) .nil mix
theorem f_l3PeaksAhead (m t : Nat) (h : m ≤ 256) : VFun Tryz.prog 94 [(eInt .i64).enc m, (eInt .i64).enc t] [] ((eInt .i64).enc (aheadC m t : Nat)) [] := by
  refine VFun_pure (n := 24) (rs := [.tmp 4]) Tryz.func94 rfl rfl rfl rfl H_spec_l3PeaksAhead ok_H_spec_l3PeaksAhead _ _ (Nat.le_of_ble_eq_true rfl) (by kernel_rfl) ?_
  simp only [go_sem, ↓reduceIte, reduceCtorEq, Nat.reduceAdd, Nat.reduceMul, Nat.reduceEqDiff, Nat.reduceSub, Nat.reduceLT, Nat.reduceLeDiff, Nat.reduceAnd, Nat.reduceShiftRight, Nat.reduceBEq, Nat.reduceBNe, Nat.reduceBneDiff, Nat.reduceBeqDiff, Int.reduceToNat, Int.reduceLE, Int.reduceLT, Int.reduceEq]
  refine LoopV.go (H := H_spec_l3PeaksAhead) ok_H_spec_l3PeaksAhead (by kernel_rfl) (fun y : Nat × Nat => ⟨[(0, sc (.int .i64 m)), (1, sc (.int .i64 t)), (5, sc (.int .i64 y.1)), (6, sc (.int .i64 y.2))], [], 2⟩) (fun y => m - y.2) (fun y => y.2 ≤ m ∧ y.1 ≤ y.2 ∧ y.1 + (peaksN y.2 m).countP (fun x => decide (x.1 < t)) = aheadC m t) ?_ (0, 0) ⟨Nat.zero_le _, Nat.le_refl _, by rw [Nat.zero_add]; rfl⟩
  rintro ⟨c, a⟩ ⟨j1, j2, j3⟩
  dsimp only at j1 j2 j3
  by_cases c1 : a < m
  · have d1 : ((a : Int) < (m : Int)) = True := eq_true (by omega)
    by_cases c2 : a < t
    · have d2 : ((a : Int) < (t : Int)) = True := eq_true (by omega)
      obtain ⟨k1, k2⟩ := halfN_in c1
      have w1 : IntKind.i64.wrap ((m : Int) - (a : Int)) = ((m - a : Nat) : Int) := by rw [wrap64] <;> omega
      have w2 : IntKind.i64.wrap ((a : Int) + (halfN (m - a) : Nat)) = ((a + halfN (m - a) : Nat) : Int) := by rw [wrap64] <;> omega
      have w3 : IntKind.i64.wrap ((c : Int) + 1) = ((c + 1 : Nat) : Int) := by rw [wrap64] <;> omega
      simp only [go_sem, ↓reduceIte, reduceCtorEq, Nat.reduceAdd, Nat.reduceMul, Nat.reduceEqDiff, Nat.reduceSub, Nat.reduceLT, Nat.reduceLeDiff, Nat.reduceAnd, Nat.reduceShiftRight, Nat.reduceBEq, Nat.reduceBNe, Nat.reduceBneDiff, Nat.reduceBeqDiff, Int.reduceToNat, Int.reduceLE, Int.reduceLT, Int.reduceEq, d1, d2, w1, w2, w3]
      refine ⟨by omega, (c + 1, a + halfN (m - a)), ⟨by dsimp only; omega, by dsimp only; omega, ?_⟩, by dsimp only; omega, rfl⟩
      rw [← j3, peaksN_go c1, List.countP_cons, if_pos (by simpa using c2)]
      dsimp only
      omega
    · have d2 : ((a : Int) < (t : Int)) = False := eq_false (by omega)
      simp only [go_sem, ↓reduceIte, reduceCtorEq, Nat.reduceAdd, Nat.reduceMul, Nat.reduceEqDiff, Nat.reduceSub, Nat.reduceLT, Nat.reduceLeDiff, Nat.reduceAnd, Nat.reduceShiftRight, Nat.reduceBEq, Nat.reduceBNe, Nat.reduceBneDiff, Nat.reduceBeqDiff, Int.reduceToNat, Int.reduceLE, Int.reduceLT, Int.reduceEq, d1, d2]
      rw [← j3, count_0 fun x hx => by have := peaksN_from a m x hx; omega]
      rfl
  · have d1 : ((a : Int) < (m : Int)) = False := eq_false (by omega)
    simp only [go_sem, ↓reduceIte, reduceCtorEq, Nat.reduceAdd, Nat.reduceMul, Nat.reduceEqDiff, Nat.reduceSub, Nat.reduceLT, Nat.reduceLeDiff, Nat.reduceAnd, Nat.reduceShiftRight, Nat.reduceBEq, Nat.reduceBNe, Nat.reduceBneDiff, Nat.reduceBeqDiff, Int.reduceToNat, Int.reduceLE, Int.reduceLT, Int.reduceEq, d1]
    rw [← j3, peaksN_end (by omega)]
    rfl
theorem ok_spec_l3PeaksAhead : MAhead.ok Tryz.prog 94 := FM.f2_ok fun m t h => by
  obtain ⟨m, rfl⟩ := Int.eq_ofNat_of_zero_le h.1
  obtain ⟨t, rfl⟩ := Int.eq_ofNat_of_zero_le h.2.2
  exact f_l3PeaksAhead m t (by omega)

/-- The sum of a number's bits. -/
def bitW (m : Nat) : Nat := if h : m = 0 then 0 else m % 2 + bitW (m / 2)
termination_by m
decreasing_by omega
def bitD : Nat → Nat → Nat
  | 0, _ => 0
  | f + 1, m => if m = 0 then 0 else m % 2 + bitD f (m / 2)
theorem bitW_D : ∀ (f m : Nat), m < 2 ^ f → bitW m = bitD f m
  | 0, m, h => by rw [bitW, dif_pos (by omega)]; rfl
  | f + 1, m, h => by
    rw [bitW, bitD]
    by_cases h0 : m = 0
    · rw [dif_pos h0, if_pos h0]
    · rw [dif_neg h0, if_neg h0, bitW_D f (m / 2) (by rw [Nat.pow_succ] at h; omega)]
theorem bit_all : ∀ n, n ∈ List.range 257 → bitD 9 n = pcN 9 n := by decide +kernel
theorem bit_pc {m : Nat} (h : m ≤ 256) : bitW m = pcN 9 m := by rw [bitW_D 9 m (by omega), bit_all m (List.mem_range.2 (by omega))]
def H_spec_PeaksCount : Hint := { fs := [(89, M166)], kp := [(0, [0]), (1, [0]), (2, []), (3, [0]), (4, [0, 3]), (5, [0, 3]), (6, [0, 3]), (7, [3])], an := [] }
attribute [go_sem] H_spec_PeaksCount
theorem ok_H_spec_PeaksCount : H_spec_PeaksCount.ok Tryz.prog := AllOk.okR (.cons m166 .nil) .nil mix
theorem f_spec_PeaksCount (n : Int) : VFun Tryz.prog 47 [(eInt .i64).enc n] [] ((eInt .i64).enc (pcM n)) [] := by
  refine VFun_pure (n := 16) (rs := [.tmp 2]) Tryz.func47 rfl rfl rfl rfl H_spec_PeaksCount ok_H_spec_PeaksCount _ _ (Nat.le_of_ble_eq_true rfl) (by kernel_rfl) ?_
  by_cases h : 0 ≤ n ∧ n ≤ 256
  case neg =>
    rw [pcM, if_neg h]
    simp only [go_sem, ↓reduceIte, reduceCtorEq, Nat.reduceAdd, Nat.reduceMul, Nat.reduceEqDiff, Nat.reduceSub, Nat.reduceLT, Nat.reduceLeDiff, Nat.reduceAnd, Nat.reduceShiftRight, Nat.reduceBEq, Nat.reduceBNe, Nat.reduceBneDiff, Nat.reduceBeqDiff, Int.reduceToNat, Int.reduceLE, Int.reduceLT, Int.reduceEq, h]
  obtain ⟨n, rfl⟩ := Int.eq_ofNat_of_zero_le h.1
  have hn : n ≤ 256 := by omega
  have hp : pcM (n : Int) = (bitW n : Nat) := by rw [pcM, if_pos h, (pc_pop hn).1, bit_pc hn]
  rw [hp]
  simp only [go_sem, ↓reduceIte, reduceCtorEq, Nat.reduceAdd, Nat.reduceMul, Nat.reduceEqDiff, Nat.reduceSub, Nat.reduceLT, Nat.reduceLeDiff, Nat.reduceAnd, Nat.reduceShiftRight, Nat.reduceBEq, Nat.reduceBNe, Nat.reduceBneDiff, Nat.reduceBeqDiff, Int.reduceToNat, Int.reduceLE, Int.reduceLT, Int.reduceEq, h]
  refine LoopV.go (H := H_spec_PeaksCount) ok_H_spec_PeaksCount (by kernel_rfl) (fun y : Nat × Nat => ⟨[(0, sc (.int .i64 y.2)), (3, sc (.int .i64 y.1))], [], 2⟩) (fun y => y.2) (fun y => y.2 ≤ 256 ∧ y.1 + y.2 ≤ 256 ∧ y.1 + bitW y.2 = bitW n) ?_ (0, n) ⟨hn, by dsimp only; omega, by dsimp only; omega⟩
  rintro ⟨c, m⟩ ⟨j1, j2, j3⟩
  dsimp only at j1 j2 j3
  by_cases c1 : 0 < m
  · have d1 : (0 < (m : Int)) = True := eq_true (by omega)
    have e1 : (m : Int).tdiv 2 = ((m / 2 : Nat) : Int) := rfl
    have e2 : (m : Int).tmod 2 = ((m % 2 : Nat) : Int) := rfl
    have w1 : IntKind.i64.wrap ((m / 2 : Nat) : Int) = ((m / 2 : Nat) : Int) := by rw [wrap64] <;> omega
    have w2 : IntKind.i64.wrap ((c : Int) + ((m % 2 : Nat) : Int)) = ((c + m % 2 : Nat) : Int) := by rw [wrap64] <;> omega
    rw [bitW, dif_neg (by omega)] at j3
    simp only [go_sem, ↓reduceIte, reduceCtorEq, Nat.reduceAdd, Nat.reduceMul, Nat.reduceEqDiff, Nat.reduceSub, Nat.reduceLT, Nat.reduceLeDiff, Nat.reduceAnd, Nat.reduceShiftRight, Nat.reduceBEq, Nat.reduceBNe, Nat.reduceBneDiff, Nat.reduceBeqDiff, Int.reduceToNat, Int.reduceLE, Int.reduceLT, Int.reduceEq, d1, e1, e2, w1, w2]
    exact ⟨(c + m % 2, m / 2), ⟨by dsimp only; omega, by dsimp only; omega, by dsimp only; omega⟩, by dsimp only; omega, rfl⟩
  · have d1 : (0 < (m : Int)) = False := eq_false (by omega)
    obtain rfl : m = 0 := by omega
    simp only [go_sem, ↓reduceIte, reduceCtorEq, Nat.reduceAdd, Nat.reduceMul, Nat.reduceEqDiff, Nat.reduceSub, Nat.reduceLT, Nat.reduceLeDiff, Nat.reduceAnd, Nat.reduceShiftRight, Nat.reduceBEq, Nat.reduceBNe, Nat.reduceBneDiff, Nat.reduceBeqDiff, Int.reduceToNat, Int.reduceLE, Int.reduceLT, Int.reduceEq, d1]
    rw [← j3, bitW, dif_pos rfl]
    rfl
theorem ok_spec_PeaksCount : MPeaksC.ok Tryz.prog 47 := FM.f1_ok fun n _ => f_spec_PeaksCount n

abbrev bxDg (d : Digest) : Root := .bx [[.c (.v (.int .u64 d.1.toNat)), .c (.v (.int .u64 d.2.1.toNat)), .c (.v (.int .u64 d.2.2.1.toNat)), .c (.v (.int .u64 d.2.2.2.toNat))]]
attribute [go_sem] bxDg
def H_spec_PeaksRoot : Hint := { fs := [(37, MHashOf), (90, MPairH)], kp := [(0, [0]), (1, [0, 2]), (2, [2]), (3, [0, 2]), (4, [2]), (5, [0, 2]), (6, [0, 2, 3]), (7, [0, 2, 3, 4]), (9, [0, 2, 3, 4]), (8, [0, 2, 3, 4]), (10, [2, 3])], an := [(9, [0, 0, 3, 7, 0, 31, 63])] }
attribute [go_sem] H_spec_PeaksRoot
theorem ok_H_spec_PeaksRoot : H_spec_PeaksRoot.ok Tryz.prog := AllOk.okR (.cons ok_spec_HashOf (.cons ok_spec_HashPair .nil)) .nil mix
theorem f_spec_PeaksRoot (l : List Digest) (h : l.length ≤ 1048576) : VFun Tryz.prog 66 [(eList cDigest).enc l] [] ((CE.st cDigest).enc (peaksR l)) [] := by
  refine VFun_pure (n := 33) (rs := [.cell 2 25]) Tryz.func66 rfl rfl rfl rfl H_spec_PeaksRoot ok_H_spec_PeaksRoot _ _ (Nat.le_of_ble_eq_true rfl) (by kernel_rfl) ?_
  by_cases c8 : 8 < l.length
  · have d8 : (8 < (l.length : Int)) = True := eq_true (by omega)
    rw [peaksR_big c8]
    simp only [go_sem, ↓reduceIte, reduceCtorEq, Nat.reduceAdd, Nat.reduceMul, Nat.reduceEqDiff, Nat.reduceSub, Nat.reduceLT, Nat.reduceLeDiff, Nat.reduceAnd, Nat.reduceShiftRight, Nat.reduceBEq, Nat.reduceBNe, Nat.reduceBneDiff, Nat.reduceBeqDiff, Int.reduceToNat, Int.reduceLE, Int.reduceLT, Int.reduceEq, d8]
  have d8 : (8 < (l.length : Int)) = False := eq_false (by omega)
  by_cases c0 : l.length = 0
  · have d0 : ((l.length : Int) = 0) = True := eq_true (by omega)
    simp only [go_sem, ↓reduceIte, reduceCtorEq, Nat.reduceAdd, Nat.reduceMul, Nat.reduceEqDiff, Nat.reduceSub, Nat.reduceLT, Nat.reduceLeDiff, Nat.reduceAnd, Nat.reduceShiftRight, Nat.reduceBEq, Nat.reduceBNe, Nat.reduceBneDiff, Nat.reduceBeqDiff, Int.reduceToNat, Int.reduceLE, Int.reduceLT, Int.reduceEq, d8, d0]
    rw [List.length_eq_zero_iff.1 c0]
    rfl
  have d0 : ((l.length : Int) = 0) = False := eq_false (by omega)
  have w1 : IntKind.i64.wrap ((l.length : Int) - 1) = ((l.length - 1 : Nat) : Int) := by rw [wrap64] <;> omega
  have w2 : IntKind.i64.wrap ((l.length : Int) - 2) = (l.length : Int) - 2 := by rw [wrap64] <;> omega
  have hlt : l.length - 1 < l.length := by omega
  have hx := List.getElem?_eq_getElem hlt
  have hd : l.drop (l.length - 1) = [l[l.length - 1]'hlt] := by rw [List.drop_eq_getElem_cons hlt, List.drop_of_length_le (by omega)]
  simp only [go_sem, ↓reduceIte, reduceCtorEq, Nat.reduceAdd, Nat.reduceMul, Nat.reduceEqDiff, Nat.reduceSub, Nat.reduceLT, Nat.reduceLeDiff, Nat.reduceAnd, Nat.reduceShiftRight, Nat.reduceBEq, Nat.reduceBNe, Nat.reduceBneDiff, Nat.reduceBeqDiff, Int.reduceToNat, Int.reduceLE, Int.reduceLT, Int.reduceEq, d8, d0, w1, w2, hx, eq_true hlt]
  refine LoopV.go (H := H_spec_PeaksRoot) ok_H_spec_PeaksRoot (by kernel_rfl) (fun k : Nat => ⟨[(0, .x (.o (.c (.s (l.map cDigest.enc))))), (2, .x (.o (.p (1, 100) 0 0 1))), (3, .x (.o (.p (1, 101) 0 0 1))), (4, sc (.int .i64 ((k : Int) - 1)))], [((1, 100), bxDg (0, 0, 0, 0)), ((1, 101), bxDg (peaksR (l.drop k)))], 2⟩) (fun k => k) (fun k => k < l.length) ?_ (l.length - 1) hlt (by rw [hd, peaksR_1, show ((l.length - 1 : Nat) : Int) - 1 = (l.length : Int) - 2 by omega]; rfl)
  intro k hk
  by_cases c1 : 1 ≤ k
  · obtain ⟨k, rfl⟩ : ∃ j, k = j + 1 := ⟨k - 1, by omega⟩
    have e1 : ((k + 1 : Nat) : Int) - 1 = (k : Int) := by omega
    have d1 : (0 ≤ (k : Int)) = True := eq_true (by omega)
    have w3 : IntKind.i64.wrap ((k : Int) - 1) = (k : Int) - 1 := by rw [wrap64] <;> omega
    have hk2 : k < l.length := by omega
    have hy := List.getElem?_eq_getElem hk2
    have hdk : peaksR (l.drop k) = pairH (l[k]'hk2) (peaksR (l.drop (k + 1))) := by
      rw [List.drop_eq_getElem_cons hk2, peaksR_2 (by rw [List.length_drop]; omega) (by rw [List.length_drop]; omega)]
    simp only [go_sem, ↓reduceIte, reduceCtorEq, Nat.reduceAdd, Nat.reduceMul, Nat.reduceEqDiff, Nat.reduceSub, Nat.reduceLT, Nat.reduceLeDiff, Nat.reduceAnd, Nat.reduceShiftRight, Nat.reduceBEq, Nat.reduceBNe, Nat.reduceBneDiff, Nat.reduceBeqDiff, Int.reduceToNat, Int.reduceLE, Int.reduceLT, Int.reduceEq, e1, d1, w3, hy, eq_true hk2]
    exact ⟨k, hk2, by omega, by rw [hdk]⟩
  · obtain rfl : k = 0 := by omega
    have e1 : (0 : Int) - 1 = -1 := rfl
    simp only [go_sem, ↓reduceIte, reduceCtorEq, Nat.reduceAdd, Nat.reduceMul, Nat.reduceEqDiff, Nat.reduceSub, Nat.reduceLT, Nat.reduceLeDiff, Nat.reduceAnd, Nat.reduceShiftRight, Nat.reduceBEq, Nat.reduceBNe, Nat.reduceBneDiff, Nat.reduceBeqDiff, Int.reduceToNat, Int.reduceLE, Int.reduceLT, Int.reduceEq, e1, List.drop_zero]
theorem ok_spec_PeaksRoot : MPeaksR.ok Tryz.prog 66 := FM.f1_ok fun l h => f_spec_PeaksRoot l h

def H_spec_GrowthLen : Hint := { fs := [(47, MPeaksC), (64, MSizes), (93, MRests)], kp := [(0, [0, 1]), (1, [0, 1]), (2, []), (3, [0, 1]), (4, []), (5, [0, 1])], an := [] }
attribute [go_sem] H_spec_GrowthLen
theorem ok_H_spec_GrowthLen : H_spec_GrowthLen.ok Tryz.prog := AllOk.okR (.cons ok_spec_PeaksCount (.cons ok_spec_l3Sizes (.cons ok_spec_l3Rests .nil))) .nil mix
theorem f_spec_GrowthLen (m n : Int) : VFun Tryz.prog 65 [(eInt .i64).enc m, (eInt .i64).enc n] [] ((eInt .i64).enc (glM m n)) [] := by
  refine VFun_pure (n := 23) (rs := [.tmp 4]) Tryz.func65 rfl rfl rfl rfl H_spec_GrowthLen ok_H_spec_GrowthLen _ _ (Nat.le_of_ble_eq_true rfl) (by kernel_rfl) ?_
  by_cases h : (0 ≤ m ∧ m ≤ n) ∧ n ≤ 256
  case neg =>
    simp only [go_sem, ↓reduceIte, reduceCtorEq, Nat.reduceAdd, Nat.reduceMul, Nat.reduceEqDiff, Nat.reduceSub, Nat.reduceLT, Nat.reduceLeDiff, Nat.reduceAnd, Nat.reduceShiftRight, Nat.reduceBEq, Nat.reduceBNe, Nat.reduceBneDiff, Nat.reduceBeqDiff, Int.reduceToNat, Int.reduceLE, Int.reduceLT, Int.reduceEq, h]
    rw [glM, if_neg h]
  by_cases h2 : m = 0 ∨ m = n
  · rw [glM, if_pos h, if_pos h2]
    simp only [go_sem, ↓reduceIte, reduceCtorEq, Nat.reduceAdd, Nat.reduceMul, Nat.reduceEqDiff, Nat.reduceSub, Nat.reduceLT, Nat.reduceLeDiff, Nat.reduceAnd, Nat.reduceShiftRight, Nat.reduceBEq, Nat.reduceBNe, Nat.reduceBneDiff, Nat.reduceBeqDiff, Int.reduceToNat, Int.reduceLE, Int.reduceLT, Int.reduceEq, h]
    exact ite_intro (fun h3 => by rw [if_pos (by omega)]; trivial) fun _ => trivial
  · rw [glM, if_pos h, if_neg h2]
    have hm : (m = 0) = False := eq_false (by omega)
    have hn : (m = n) = False := eq_false (by omega)
    obtain ⟨m, rfl⟩ := Int.eq_ofNat_of_zero_le (show 0 ≤ m by omega)
    obtain ⟨n, rfl⟩ := Int.eq_ofNat_of_zero_le (show 0 ≤ n by omega)
    have hl := fallI_len (lo := 0) (hi := n) (m := m) (by omega)
    have hk := (peaks_len (m := m) (by omega)).1
    have ho : (oldI 0 n m).length = (peaksN 0 m).length := by rw [oldI, List.length_map, fallO_peaks 0 n m (by omega) (by omega)]
    have hr : restC 0 n m n = (newI 0 n m).length := by
      rw [newI, List.length_map]
      exact count_all fun x hx => by have := (fall_in 0 n m (by omega)).2.1 x hx; omega
    have w1 : IntKind.i64.wrap (((peaksN 0 m).length : Int) + ((newI 0 n m).length : Int)) = (((oldI 0 n m).length + (newI 0 n m).length : Nat) : Int) := by rw [wrap64] <;> omega
    simp only [go_sem, ↓reduceIte, reduceCtorEq, Nat.reduceAdd, Nat.reduceMul, Nat.reduceEqDiff, Nat.reduceSub, Nat.reduceLT, Nat.reduceLeDiff, Nat.reduceAnd, Nat.reduceShiftRight, Nat.reduceBEq, Nat.reduceBNe, Nat.reduceBneDiff, Nat.reduceBeqDiff, Int.reduceToNat, Int.reduceLE, Int.reduceLT, Int.reduceEq, h, hm, hn, hk, hr, w1]
    omega
theorem ok_spec_GrowthLen : MGLen.ok Tryz.prog 65 := FM.f2_ok fun m n _ => f_spec_GrowthLen m n

/-! What the reference finds in a proof is what the program finds. -/
theorem zip_at {xs : List (Int × Int)} {ds : List Digest} (hnd : xs.Nodup) (hl : ds.length = xs.length) {i : Nat} {x : Int × Int} (hx : xs[i]? = some x) : ∃ d, ds[i]? = some d ∧ findN (xs.zip ds) x = some d := by
  obtain ⟨hi, rfl⟩ := List.getElem?_eq_some_iff.1 hx
  refine ⟨ds[i]'(by omega), List.getElem?_eq_getElem (by omega), ?_⟩
  obtain ⟨d, hd⟩ := zip_has (ds := ds) (by omega) (List.getElem_mem hi)
  obtain ⟨j, hj, he⟩ := List.mem_iff_getElem.1 (findN_mem hd)
  rw [List.length_zip] at hj
  rw [List.getElem_zip] at he
  have h1 : xs[j]'(by omega) = xs[i]'hi := congrArg Prod.fst he
  have h2 : ds[j]'(by omega) = d := congrArg Prod.snd he
  have hij := (List.getElem_inj hnd).1 h1
  subst hij
  rw [hd, h2]
def NodeIn (m n lo hi : Nat) : Prop := (∀ x ∈ fallF lo hi m, x ∈ fallF 0 n m) ∧ ∀ x ∈ fallO lo hi m, x ∈ fallO 0 n m
theorem NodeIn_mid {m n lo hi : Nat} (h : ¬ hi ≤ m) (h2 : ¬ m ≤ lo) (hn : NodeIn m n lo hi) : NodeIn m n lo (lo + splitN (hi - lo)) ∧ NodeIn m n (lo + splitN (hi - lo)) hi := by
  obtain ⟨h3, h4⟩ := hn
  rw [fallF_mid h h2] at h3
  rw [fallO_mid h h2] at h4
  exact ⟨⟨fun x hx => h3 x (List.mem_append_left _ hx), fun x hx => h4 x (List.mem_append_left _ hx)⟩, ⟨fun x hx => h3 x (List.mem_append_right _ hx), fun x hx => h4 x (List.mem_append_right _ hx)⟩⟩
section
variable {m n lo hi : Nat} {ds : List Digest}
theorem node_new (hm : 0 < m) (hmn : m < n) (hl : ds.length = (nodesI m n).length) (hlt : lo < hi) (hn : NodeIn m n lo hi) (h : m ≤ lo) : ∃ d, ds[(peaksN 0 m).length + restC 0 n m lo]? = some d ∧ digW ((nodesI m n).zip ds) lo hi = d := by
  have hin : (lo, hi) ∈ fallF 0 n m := hn.1 _ (by rw [fallF_new (by omega) h]; exact List.mem_cons_self)
  have h1 := idx_sorted (fall_sorted 0 n m (by omega)).2 hin
  have h2 : (nodesI m n)[(peaksN 0 m).length + restC 0 n m lo]? = some (nodeI (lo, hi)) := by
    rw [nodesI_map, List.getElem?_map, fallO_peaks 0 n m hm hmn, List.getElem?_append_right (by omega), Nat.add_sub_cancel_left]
    unfold restC
    rw [h1]; rfl
  obtain ⟨d, h3, h4⟩ := zip_at (nodesI_nodup (by omega)) hl h2
  exact ⟨d, h3, digW_at h4⟩
theorem node_old (hm : 0 < m) (hmn : m < n) (hl : ds.length = (nodesI m n).length) (hlt : lo < hi) (hn : NodeIn m n lo hi) (h : hi ≤ m) : ∃ d, ds[aheadC m lo]? = some d ∧ digW ((nodesI m n).zip ds) lo hi = d := by
  have hin : (lo, hi) ∈ fallO 0 n m := hn.2 _ (by rw [fallO_old h]; exact List.mem_cons_self)
  have h1 := idx_sorted (fall_sorted 0 n m (by omega)).1 hin
  have h2 : (nodesI m n)[aheadC m lo]? = some (nodeI (lo, hi)) := by
    have h5 : aheadC m lo < (fallO 0 n m).length := by
      have := (List.getElem?_eq_some_iff.1 h1).1
      unfold aheadC
      rw [← fallO_peaks 0 n m hm hmn]
      exact this
    rw [nodesI_map, List.getElem?_map, List.getElem?_append_left h5]
    unfold aheadC
    rw [← fallO_peaks 0 n m hm hmn, h1]; rfl
  obtain ⟨d, h3, h4⟩ := zip_at (nodesI_nodup (by omega)) hl h2
  exact ⟨d, h3, digW_at h4⟩
theorem node_mid (hn : 0 < n) (h : lo < m) (h2 : m < hi) : digW ((nodesI m n).zip ds) lo hi = pairH (digW ((nodesI m n).zip ds) lo (lo + splitN (hi - lo))) (digW ((nodesI m n).zip ds) (lo + splitN (hi - lo)) hi) := by
  refine digW_mid (findN_no fun e he hx => ?_) (by omega)
  have h3 : e.1 ∈ nodesI m n := (List.of_mem_zip (show (e.1, e.2) ∈ _ from he)).1
  rw [hx, nodesI_map] at h3
  obtain ⟨y, hy, hye⟩ := List.mem_map.1 h3
  have hyy : y = (lo, hi) := nodeI_inj hye
  obtain ⟨s1, s2⟩ := fall_side 0 n m hn
  rcases List.mem_append.1 hy with hy | hy
  · have := s1 y hy; rw [hyy] at this; dsimp only at this; omega
  · have := s2 y hy; rw [hyy] at this; dsimp only at this; omega
end

def FM.f5 {A1 A2 A3 A4 A5 : Type} (a : CE A1) (b : CE A2) (c : CE A3) (d : CE A4) (e : CE A5) (r : A1 → A2 → A3 → A4 → A5 → E) (pre : A1 → A2 → A3 → A4 → A5 → Prop) : FM := ⟨[], fun args rin => match args, rin with
  | [e1, e2, e3, e4, e5], [] => match a.dec e1, b.dec e2, c.dec e3, d.dec e4, e.dec e5 with
    | some x, some y, some z, some u, some v => some (r x y z u v, [], pre x y z u v)
    | _, _, _, _, _ => none
  | _, _ => none⟩
theorem FM.f5_ok {P : Program} {g : FuncId} {A1 A2 A3 A4 A5 : Type} {a : CE A1} {b : CE A2} {c : CE A3} {d : CE A4} {e : CE A5} {r : A1 → A2 → A3 → A4 → A5 → E} {pre : A1 → A2 → A3 → A4 → A5 → Prop} (h : ∀ x y z u v, pre x y z u v → VFun P g [a.enc x, b.enc y, c.enc z, d.enc u, e.enc v] [] (r x y z u v) []) : (FM.f5 a b c d e r pre).ok P g := by
  intro args rin res rout p hm hp
  simp only [FM.f5] at hm
  split at hm
  · split at hm
    · rename_i hx hy hz hu hv; cases hm; exact (h _ _ _ _ _ hp).weaken (.cons (a.ok _ _ hx) (.cons (b.ok _ _ hy) (.cons (c.ok _ _ hz) (.cons (d.ok _ _ hu) (.cons (e.ok _ _ hv) .nil)))))
    · cases hm
  · cases hm
attribute [go_sem] FM.f5

abbrev nodeP (lo hi m n : Int) (ds : List Digest) : Prop := (0 ≤ lo ∧ lo < hi ∧ hi ≤ n ∧ n ≤ 256) ∧ (0 < m ∧ m < n) ∧ ds.length = (nodesI m.toNat n.toNat).length ∧ NodeIn m.toNat n.toNat lo.toNat hi.toNat
abbrev MNodeN (N : Nat) : FM := .f5 (eInt .i64) (eInt .i64) (eInt .i64) (eInt .i64) (eList cDigest) (fun lo hi m n ds => (CE.st cDigest).enc (digW ((nodesI m.toNat n.toNat).zip ds) lo.toNat hi.toNat)) (fun lo hi m n ds => hi.toNat - lo.toNat < N ∧ nodeP lo hi m n ds)
attribute [go_sem] MNodeN
def H_spec_l3Node (N : Nat) : Hint := { fs := [(45, MSplit), (47, MPeaksC), (49, (MNodeN N)), (90, MPairH), (93, MRests), (94, MAhead)], kp := [(0, [0, 1, 2, 3, 4]), (1, [0, 1, 2, 3, 4, 10]), (2, [0, 2, 3, 4, 10]), (3, [0, 1, 2, 3, 4, 10]), (4, [0, 2, 4, 10]), (5, [0, 1, 2, 3, 4, 10]), (6, [0, 1, 2, 3, 4, 10, 11])], an := [] }
attribute [go_sem] H_spec_l3Node
theorem ok_H_spec_l3Node (N : Nat) (ih : (MNodeN N).ok Tryz.prog 49) : (H_spec_l3Node N).ok Tryz.prog := AllOk.okR (.cons ok_spec_TreeSplit (.cons ok_spec_PeaksCount (.cons ih (.cons ok_spec_HashPair (.cons ok_spec_l3Rests (.cons ok_spec_l3PeaksAhead .nil)))))) .nil mix
theorem f_l3Node : ∀ (N : Nat) (lo hi m n : Int) (ds : List Digest), (hi.toNat - lo.toNat < N ∧ nodeP lo hi m n ds) → VFun Tryz.prog 49 [(eInt .i64).enc lo, (eInt .i64).enc hi, (eInt .i64).enc m, (eInt .i64).enc n, (eList cDigest).enc ds] [] ((CE.st cDigest).enc (digW ((nodesI m.toNat n.toNat).zip ds) lo.toNat hi.toNat)) []
  | 0, lo, hi, m, n, ds, h => absurd h.1 (by omega)
  | N + 1, lo, hi, m, n, ds, h => by
    have ih : (MNodeN N).ok Tryz.prog 49 := FM.f5_ok fun lo hi m n ds h => f_l3Node N lo hi m n ds h
    obtain ⟨h0, ⟨h1, h2, h3, h4⟩, ⟨h5, h6⟩, h7, h8⟩ := h
    obtain ⟨lo, rfl⟩ := Int.eq_ofNat_of_zero_le h1
    obtain ⟨hi, rfl⟩ := Int.eq_ofNat_of_zero_le (show 0 ≤ hi by omega)
    obtain ⟨m, rfl⟩ := Int.eq_ofNat_of_zero_le (show 0 ≤ m by omega)
    obtain ⟨n, rfl⟩ := Int.eq_ofNat_of_zero_le (show 0 ≤ n by omega)
    simp only [Int.toNat_natCast] at h0 h7 h8 ⊢
    have hk := (peaks_len (m := m) (by omega)).1
    refine VFun_pure (n := 53) (rs := [.cell 10 25]) Tryz.func49 rfl rfl rfl rfl (H_spec_l3Node N) (ok_H_spec_l3Node N ih) _ _ (Nat.le_of_ble_eq_true rfl) (by kernel_rfl) ?_
    by_cases c1 : m ≤ lo
    · have d1 : ((m : Int) ≤ (lo : Int)) = True := eq_true (by omega)
      obtain ⟨d, e1, e2⟩ := node_new (by omega) (by omega) h7 (by omega) h8 c1
      have hlt := (List.getElem?_eq_some_iff.1 e1).1
      have hb := restC_len 0 n m lo (by omega)
      have hpk := (peaks_len (m := m) (by omega)).2
      have w1 : IntKind.i64.wrap (((peaksN 0 m).length : Int) + (restC 0 n m lo : Int)) = (((peaksN 0 m).length + restC 0 n m lo : Nat) : Int) := by rw [wrap64] <;> omega
      rw [e2]
      simp only [go_sem, ↓reduceIte, reduceCtorEq, Nat.reduceAdd, Nat.reduceMul, Nat.reduceEqDiff, Nat.reduceSub, Nat.reduceLT, Nat.reduceLeDiff, Nat.reduceAnd, Nat.reduceShiftRight, Nat.reduceBEq, Nat.reduceBNe, Nat.reduceBneDiff, Nat.reduceBeqDiff, Int.reduceToNat, Int.reduceLE, Int.reduceLT, Int.reduceEq, d1, hk, w1, e1, eq_true hlt]
      omega
    have d1 : ((m : Int) ≤ (lo : Int)) = False := eq_false (by omega)
    by_cases c2 : hi ≤ m
    · have d2 : ((hi : Int) ≤ (m : Int)) = True := eq_true (by omega)
      obtain ⟨d, e1, e2⟩ := node_old (by omega) (by omega) h7 (by omega) h8 c2
      have hlt := (List.getElem?_eq_some_iff.1 e1).1
      rw [e2]
      simp only [go_sem, ↓reduceIte, reduceCtorEq, Nat.reduceAdd, Nat.reduceMul, Nat.reduceEqDiff, Nat.reduceSub, Nat.reduceLT, Nat.reduceLeDiff, Nat.reduceAnd, Nat.reduceShiftRight, Nat.reduceBEq, Nat.reduceBNe, Nat.reduceBneDiff, Nat.reduceBeqDiff, Int.reduceToNat, Int.reduceLE, Int.reduceLT, Int.reduceEq, d1, d2, e1, eq_true hlt]
      omega
    have d2 : ((hi : Int) ≤ (m : Int)) = False := eq_false (by omega)
    have k1 := splitN_lt (n := hi - lo) (by omega)
    have k2 := splitN_pos (hi - lo)
    have w1 : IntKind.i64.wrap ((hi : Int) - (lo : Int)) = ((hi - lo : Nat) : Int) := by rw [wrap64] <;> omega
    have hs : splitM ((hi - lo : Nat) : Int) = (splitN (hi - lo) : Nat) := splitM_in (by omega) (by omega)
    have w2 : IntKind.i64.wrap ((lo : Int) + (splitN (hi - lo) : Nat)) = ((lo + splitN (hi - lo) : Nat) : Int) := by rw [wrap64] <;> omega
    obtain ⟨g1, g2⟩ := NodeIn_mid c2 c1 h8
    rw [node_mid (by omega) (by omega) (by omega)]
    simp only [go_sem, ↓reduceIte, reduceCtorEq, Nat.reduceAdd, Nat.reduceMul, Nat.reduceEqDiff, Nat.reduceSub, Nat.reduceLT, Nat.reduceLeDiff, Nat.reduceAnd, Nat.reduceShiftRight, Nat.reduceBEq, Nat.reduceBNe, Nat.reduceBneDiff, Nat.reduceBeqDiff, Int.reduceToNat, Int.reduceLE, Int.reduceLT, Int.reduceEq, d1, d2, w1, hs, w2]
    exact ⟨⟨by omega, ⟨by omega, by omega, by omega, by omega⟩, ⟨h5, h6⟩, h7, g1⟩, by omega, ⟨by omega, by omega, by omega, by omega⟩, ⟨h5, h6⟩, h7, g2⟩
abbrev MNode : FM := .f5 (eInt .i64) (eInt .i64) (eInt .i64) (eInt .i64) (eList cDigest) (fun lo hi m n ds => (CE.st cDigest).enc (digW ((nodesI m.toNat n.toNat).zip ds) lo.toNat hi.toNat)) nodeP
attribute [go_sem] MNode
theorem ok_spec_l3Node : MNode.ok Tryz.prog 49 := FM.f5_ok fun lo hi m n ds h => f_l3Node (hi.toNat - lo.toNat + 1) lo hi m n ds ⟨by omega, h⟩

def H_spec_GrowthCheck : Hint := { fs := [(37, MHashOf), (47, MPeaksC), (49, MNode), (64, MSizes), (65, MGLen), (66, MPeaksR)], kp := [(0, [0, 1, 2]), (1, [2, 3, 4]), (2, [2, 3, 4, 7]), (3, [2, 3, 4, 7, 8]), (4, []), (5, [2, 3, 4, 7, 8]), (6, []), (7, [2, 3, 4, 7, 8]), (8, []), (9, [2, 3, 4, 7, 8]), (10, [3, 4]), (11, []), (12, []), (13, [2, 3, 4, 7, 8]), (14, []), (15, [2, 3, 4, 7, 8]), (16, []), (17, [2, 4, 7, 8]), (18, []), (19, [])], an := [(7, [0, 1, 3, 7, 15, 7, 63, 127]), (15, [0, 0, 2, 7, 15, 0, 32, 127]), (17, [0, 0, 0, 0, 15, 0, 32, 127])] }
attribute [go_sem] H_spec_GrowthCheck
theorem ok_H_spec_GrowthCheck : H_spec_GrowthCheck.ok Tryz.prog := AllOk.okR (.cons ok_spec_HashOf (.cons ok_spec_PeaksCount (.cons ok_spec_l3Node (.cons ok_spec_l3Sizes (.cons ok_spec_GrowthLen (.cons ok_spec_PeaksRoot .nil)))))) .nil mix
theorem f_spec_GrowthCheck (o w : Point) (prf : List Digest) (hp : prf.length ≤ 1048576) : VFun Tryz.prog 27 [(CE.st cPoint).enc o, (CE.st cPoint).enc w, (eList cDigest).enc prf] [] ((eInt .i64).enc (grcM o w prf)) [] := by
  obtain ⟨m, r⟩ := o
  obtain ⟨n, s⟩ := w
  refine VFun_pure (n := 57) (rs := [.tmp 6]) Tryz.func27 rfl rfl rfl rfl H_spec_GrowthCheck ok_H_spec_GrowthCheck _ _ (Nat.le_of_ble_eq_true rfl) (by kernel_rfl) ?_
  by_cases h1 : (0 ≤ m ∧ m ≤ n) ∧ n ≤ 256
  case neg =>
    rw [grcM, if_pos h1]
    simp only [go_sem, ↓reduceIte, reduceCtorEq, Nat.reduceAdd, Nat.reduceMul, Nat.reduceEqDiff, Nat.reduceSub, Nat.reduceLT, Nat.reduceLeDiff, Nat.reduceAnd, Nat.reduceShiftRight, Nat.reduceBEq, Nat.reduceBNe, Nat.reduceBneDiff, Nat.reduceBeqDiff, Int.reduceToNat, Int.reduceLE, Int.reduceLT, Int.reduceEq, h1]
  by_cases h2 : (prf.length : Int) = glM m n
  case neg =>
    rw [grcM, if_neg (fun h => h h1), if_pos h2]
    simp only [go_sem, ↓reduceIte, reduceCtorEq, Nat.reduceAdd, Nat.reduceMul, Nat.reduceEqDiff, Nat.reduceSub, Nat.reduceLT, Nat.reduceLeDiff, Nat.reduceAnd, Nat.reduceShiftRight, Nat.reduceBEq, Nat.reduceBNe, Nat.reduceBneDiff, Nat.reduceBeqDiff, Int.reduceToNat, Int.reduceLE, Int.reduceLT, Int.reduceEq, h1, h2]
  by_cases hm : 0 < m ∧ m < n
  · obtain ⟨m, rfl⟩ := Int.eq_ofNat_of_zero_le (show 0 ≤ m by omega)
    obtain ⟨n, rfl⟩ := Int.eq_ofNat_of_zero_le (show 0 ≤ n by omega)
    have hl : prf.length = (nodesI m n).length := by
      rw [glM, if_pos h1, if_neg (by omega), Int.toNat_natCast, Int.toNat_natCast] at h2
      rw [nodesI, List.length_append]
      omega
    obtain ⟨hk, hk8⟩ := peaks_len (m := m) (by omega)
    have hkl : (peaksN 0 m).length ≤ prf.length := by
      rw [hl, nodesI_map, List.length_map, List.length_append, fallO_peaks 0 n m (by omega) (by omega)]
      omega
    have hnd : nodeP 0 n m n prf := ⟨⟨by omega, by omega, by omega, by omega⟩, hm, hl, ⟨fun x hx => hx, fun x hx => hx⟩⟩
    have c0 : ((m : Int) = 0) = False := eq_false (by omega)
    have cn : ((m : Int) = (n : Int)) = False := eq_false (by omega)
    have hg : grcM ((m : Int), r) ((n : Int), s) prf = if peaksR (prf.take (peaksN 0 m).length) = r then (if digW ((nodesI m n).zip prf) 0 n = s then 0 else 4) else 3 := by
      rw [grcM, if_neg (fun h => h h1), if_neg (fun h => h h2)]
      simp only [hk, Int.toNat_natCast, c0, cn, hm, false_and, false_or, true_and, and_self, ne_eq, ite_not]
    rw [hg]
    have hz : (prf.take (peaksN 0 m).length).length ≤ 1048576 := by rw [List.length_take]; omega
    by_cases g1 : peaksR (prf.take (peaksN 0 m).length) = r
    case neg =>
      rw [if_neg g1]
      simp only [go_sem, ↓reduceIte, reduceCtorEq, Nat.reduceAdd, Nat.reduceMul, Nat.reduceEqDiff, Nat.reduceSub, Nat.reduceLT, Nat.reduceLeDiff, Nat.reduceAnd, Nat.reduceShiftRight, Nat.reduceBEq, Nat.reduceBNe, Nat.reduceBneDiff, Nat.reduceBeqDiff, Int.reduceToNat, Int.reduceLE, Int.reduceLT, Int.reduceEq, h1, h2, hm, c0, cn, hk, digEq, decide_eq_false g1]
      exact ⟨by omega, hz⟩
    rw [if_pos g1]
    by_cases g2 : digW ((nodesI m n).zip prf) 0 n = s
    · rw [if_pos g2]
      simp only [go_sem, ↓reduceIte, reduceCtorEq, Nat.reduceAdd, Nat.reduceMul, Nat.reduceEqDiff, Nat.reduceSub, Nat.reduceLT, Nat.reduceLeDiff, Nat.reduceAnd, Nat.reduceShiftRight, Nat.reduceBEq, Nat.reduceBNe, Nat.reduceBneDiff, Nat.reduceBeqDiff, Int.reduceToNat, Int.reduceLE, Int.reduceLT, Int.reduceEq, h1, h2, hm, c0, cn, hk, digEq, decide_eq_true g1, decide_eq_true g2]
      exact ⟨by omega, hz, hnd⟩
    · rw [if_neg g2]
      simp only [go_sem, ↓reduceIte, reduceCtorEq, Nat.reduceAdd, Nat.reduceMul, Nat.reduceEqDiff, Nat.reduceSub, Nat.reduceLT, Nat.reduceLeDiff, Nat.reduceAnd, Nat.reduceShiftRight, Nat.reduceBEq, Nat.reduceBNe, Nat.reduceBneDiff, Nat.reduceBeqDiff, Int.reduceToNat, Int.reduceLE, Int.reduceLT, Int.reduceEq, h1, h2, hm, c0, cn, hk, digEq, decide_eq_true g1, decide_eq_false g2]
      exact ⟨by omega, hz, hnd⟩
  · have hg : grcM (m, r) (n, s) prf = if m = 0 ∧ r ≠ hashOf ⟨#[]⟩ then 3 else if m = n ∧ r ≠ s then 4 else 0 := by
      rw [grcM, if_neg (fun h => h h1), if_neg (fun h => h h2)]
      simp only [hm, false_and, or_false]
    rw [hg]
    by_cases hm0 : m = 0
    · by_cases hr : r = hashOf ⟨#[]⟩
      · by_cases hn : m = n
        · by_cases hs : r = s
          · rw [if_neg (fun h => h.2 hr), if_neg (fun h => h.2 hs)]
            simp only [go_sem, ↓reduceIte, reduceCtorEq, Nat.reduceAdd, Nat.reduceMul, Nat.reduceEqDiff, Nat.reduceSub, Nat.reduceLT, Nat.reduceLeDiff, Nat.reduceAnd, Nat.reduceShiftRight, Nat.reduceBEq, Nat.reduceBNe, Nat.reduceBneDiff, Nat.reduceBeqDiff, Int.reduceToNat, Int.reduceLE, Int.reduceLT, Int.reduceEq, h1, h2, eq_true hm0, digEq, decide_eq_true hr, eq_true hn, decide_eq_true hs.symm]
          · rw [if_neg (fun h => h.2 hr), if_pos ⟨hn, hs⟩]
            simp only [go_sem, ↓reduceIte, reduceCtorEq, Nat.reduceAdd, Nat.reduceMul, Nat.reduceEqDiff, Nat.reduceSub, Nat.reduceLT, Nat.reduceLeDiff, Nat.reduceAnd, Nat.reduceShiftRight, Nat.reduceBEq, Nat.reduceBNe, Nat.reduceBneDiff, Nat.reduceBeqDiff, Int.reduceToNat, Int.reduceLE, Int.reduceLT, Int.reduceEq, h1, h2, eq_true hm0, digEq, decide_eq_true hr, eq_true hn, decide_eq_false (Ne.symm hs)]
        · rw [if_neg (fun h => h.2 hr), if_neg (fun h => hn h.1)]
          simp only [go_sem, ↓reduceIte, reduceCtorEq, Nat.reduceAdd, Nat.reduceMul, Nat.reduceEqDiff, Nat.reduceSub, Nat.reduceLT, Nat.reduceLeDiff, Nat.reduceAnd, Nat.reduceShiftRight, Nat.reduceBEq, Nat.reduceBNe, Nat.reduceBneDiff, Nat.reduceBeqDiff, Int.reduceToNat, Int.reduceLE, Int.reduceLT, Int.reduceEq, h1, h2, eq_true hm0, digEq, decide_eq_true hr, hn]
      · rw [if_pos ⟨hm0, hr⟩]
        simp only [go_sem, ↓reduceIte, reduceCtorEq, Nat.reduceAdd, Nat.reduceMul, Nat.reduceEqDiff, Nat.reduceSub, Nat.reduceLT, Nat.reduceLeDiff, Nat.reduceAnd, Nat.reduceShiftRight, Nat.reduceBEq, Nat.reduceBNe, Nat.reduceBneDiff, Nat.reduceBeqDiff, Int.reduceToNat, Int.reduceLE, Int.reduceLT, Int.reduceEq, h1, h2, eq_true hm0, digEq, decide_eq_false hr]
    · have hn : m = n := by omega
      by_cases hs : r = s
      · rw [if_neg (fun h => hm0 h.1), if_neg (fun h => h.2 hs)]
        simp only [go_sem, ↓reduceIte, reduceCtorEq, Nat.reduceAdd, Nat.reduceMul, Nat.reduceEqDiff, Nat.reduceSub, Nat.reduceLT, Nat.reduceLeDiff, Nat.reduceAnd, Nat.reduceShiftRight, Nat.reduceBEq, Nat.reduceBNe, Nat.reduceBneDiff, Nat.reduceBeqDiff, Int.reduceToNat, Int.reduceLE, Int.reduceLT, Int.reduceEq, h1, h2, hm0, digEq, eq_true hn, decide_eq_true hs.symm]
      · rw [if_neg (fun h => hm0 h.1), if_pos ⟨hn, hs⟩]
        simp only [go_sem, ↓reduceIte, reduceCtorEq, Nat.reduceAdd, Nat.reduceMul, Nat.reduceEqDiff, Nat.reduceSub, Nat.reduceLT, Nat.reduceLeDiff, Nat.reduceAnd, Nat.reduceShiftRight, Nat.reduceBEq, Nat.reduceBNe, Nat.reduceBneDiff, Nat.reduceBeqDiff, Int.reduceToNat, Int.reduceLE, Int.reduceLT, Int.reduceEq, h1, h2, hm0, digEq, eq_true hn, decide_eq_false (Ne.symm hs)]
theorem ok_spec_GrowthCheck : MGrc.ok Tryz.prog 27 := FM.f3_ok fun o w p h => f_spec_GrowthCheck o w p h

/-! Chains of growths. -/
abbrev Growth := Point × List Digest
abbrev cGrowth : Cd Growth := cPair cPoint (cList cDigest)
attribute [go_sem] cGrowth
def chainF : Point → List Growth → Option Point
  | p, [] => some p
  | p, g :: gs => if grcM p g.1 g.2 = 0 then chainF g.1 gs else none
def chainM (p : Point) (gs : List Growth) : Point × Bool := if 256 < gs.length then ((0, 0, 0, 0, 0), false) else match chainF p gs with
  | some q => (q, true)
  | none => ((0, 0, 0, 0, 0), false)
theorem chainM_big {p : Point} {gs : List Growth} (h : 256 < gs.length) : chainM p gs = ((0, 0, 0, 0, 0), false) := if_pos h
theorem chainM_at {p q : Point} {gs : List Growth} (h : ¬ 256 < gs.length) (hq : chainF p gs = some q) : chainM p gs = (q, true) := by rw [chainM, if_neg h, hq]
theorem chainM_no {p : Point} {gs : List Growth} (h : ¬ 256 < gs.length) (hq : chainF p gs = none) : chainM p gs = ((0, 0, 0, 0, 0), false) := by rw [chainM, if_neg h, hq]
theorem chainF_step {p : Point} {gs : List Growth} {i : Nat} {g : Growth} (h : gs[i]? = some g) : chainF p (gs.drop i) = if grcM p g.1 g.2 = 0 then chainF g.1 (gs.drop (i + 1)) else none := by
  obtain ⟨hi, rfl⟩ := List.getElem?_eq_some_iff.1 h
  rw [List.drop_eq_getElem_cons hi, chainF]
abbrev eEnd : CE (Point × Bool) := eT2 (CE.st cPoint) eBool (st_x _) (one_x _ _)
attribute [go_sem] eEnd
abbrev MChain : FM := .f2 (CE.st cPoint) (eList cGrowth) eEnd.enc chainM (fun _ gs => gs.length ≤ 1048576 ∧ ∀ g ∈ gs, g.2.length ≤ 1048576)
attribute [go_sem] MChain
abbrev bxPt (p : Point) : Root := .bx [[.c (.v (.int .i64 p.1)), .c (.v (.int .u64 p.2.1.toNat)), .c (.v (.int .u64 p.2.2.1.toNat)), .c (.v (.int .u64 p.2.2.2.1.toNat)), .c (.v (.int .u64 p.2.2.2.2.toNat))]]
attribute [go_sem] bxPt

def H_spec_ChainEnd : Hint := { fs := [(27, MGrc)], kp := [(0, [0, 1]), (1, [1, 2, 4]), (2, [4]), (3, [1, 2, 4]), (4, [1, 4, 6]), (5, [1, 4, 6, 7]), (7, [1, 4, 6, 7]), (8, [4]), (9, [1, 4, 6, 7]), (6, [1, 4, 6, 7]), (10, [4, 6])], an := [(7, [0, 0, 0, 6, 14, 30, 0, 0, 192, 448, 960, 2047, 4095])] }
attribute [go_sem] H_spec_ChainEnd
theorem ok_H_spec_ChainEnd : H_spec_ChainEnd.ok Tryz.prog := AllOk.okR (.cons ok_spec_GrowthCheck .nil) .nil mix
theorem f_spec_ChainEnd (p : Point) (gs : List Growth) (h : gs.length ≤ 1048576 ∧ ∀ g ∈ gs, g.2.length ≤ 1048576) : VFun Tryz.prog 6 [(CE.st cPoint).enc p, (eList cGrowth).enc gs] [] (eEnd.enc (chainM p gs)) [] := by
  obtain ⟨h1, h2⟩ := h
  refine VFun_pure (n := 39) (rs := [.cell 4 27, .tmp 5]) Tryz.func6 rfl rfl rfl rfl H_spec_ChainEnd ok_H_spec_ChainEnd _ _ (Nat.le_of_ble_eq_true rfl) (by kernel_rfl) ?_
  by_cases h8 : 256 < gs.length
  · have d8 : (256 < (gs.length : Int)) = True := eq_true (by omega)
    rw [chainM_big h8]
    simp only [go_sem, ↓reduceIte, reduceCtorEq, Nat.reduceAdd, Nat.reduceMul, Nat.reduceEqDiff, Nat.reduceSub, Nat.reduceLT, Nat.reduceLeDiff, Nat.reduceAnd, Nat.reduceShiftRight, Nat.reduceBEq, Nat.reduceBNe, Nat.reduceBneDiff, Nat.reduceBeqDiff, Int.reduceToNat, Int.reduceLE, Int.reduceLT, Int.reduceEq, d8]
  have d8 : (256 < (gs.length : Int)) = False := eq_false (by omega)
  simp only [go_sem, ↓reduceIte, reduceCtorEq, Nat.reduceAdd, Nat.reduceMul, Nat.reduceEqDiff, Nat.reduceSub, Nat.reduceLT, Nat.reduceLeDiff, Nat.reduceAnd, Nat.reduceShiftRight, Nat.reduceBEq, Nat.reduceBNe, Nat.reduceBneDiff, Nat.reduceBeqDiff, Int.reduceToNat, Int.reduceLE, Int.reduceLT, Int.reduceEq, d8]
  refine LoopV.go (H := H_spec_ChainEnd) ok_H_spec_ChainEnd (by kernel_rfl) (fun y : Nat × Point => ⟨[(1, .x (.o (.c (.s (gs.map cGrowth.enc))))), (4, .x (.o (.p (1, 100) 0 0 1))), (6, .x (.o (.p (1, 101) 0 0 1))), (7, sc (.int .i64 y.1))], [((1, 100), bxPt (0, 0, 0, 0, 0)), ((1, 101), bxPt y.2)], 2⟩) (fun y => gs.length - y.1) (fun y => y.1 ≤ gs.length ∧ chainF p gs = chainF y.2 (gs.drop y.1)) ?_ (0, p) ⟨Nat.zero_le _, rfl⟩
  rintro ⟨i, q⟩ ⟨j1, j2⟩
  dsimp only at j1 j2
  have w1 : IntKind.i64.wrap ((i : Int) + 1) = ((i + 1 : Nat) : Int) := by rw [wrap64] <;> omega
  by_cases hlt : i < gs.length
  · have c1 : ((i : Int) < (gs.length : Int)) = True := eq_true (by omega)
    have hx := List.getElem?_eq_getElem hlt
    have hm := h2 _ (List.mem_of_getElem? hx)
    obtain ⟨x, hxx⟩ : ∃ x, gs[i]'hlt = x := ⟨_, rfl⟩
    rw [hxx] at hx hm
    rw [chainF_step hx] at j2
    by_cases hg : grcM q x.1 x.2 = 0
    · rw [if_pos hg] at j2
      simp only [go_sem, ↓reduceIte, reduceCtorEq, Nat.reduceAdd, Nat.reduceMul, Nat.reduceEqDiff, Nat.reduceSub, Nat.reduceLT, Nat.reduceLeDiff, Nat.reduceAnd, Nat.reduceShiftRight, Nat.reduceBEq, Nat.reduceBNe, Nat.reduceBneDiff, Nat.reduceBeqDiff, Int.reduceToNat, Int.reduceLE, Int.reduceLT, Int.reduceEq, c1, w1, hx, eq_true hlt, eq_true hg]
      exact ⟨hm, (i + 1, x.1), ⟨by dsimp only; omega, j2⟩, by dsimp only; omega, rfl⟩
    · rw [if_neg hg] at j2
      rw [chainM_no h8 j2]
      simp only [go_sem, ↓reduceIte, reduceCtorEq, Nat.reduceAdd, Nat.reduceMul, Nat.reduceEqDiff, Nat.reduceSub, Nat.reduceLT, Nat.reduceLeDiff, Nat.reduceAnd, Nat.reduceShiftRight, Nat.reduceBEq, Nat.reduceBNe, Nat.reduceBneDiff, Nat.reduceBeqDiff, Int.reduceToNat, Int.reduceLE, Int.reduceLT, Int.reduceEq, c1, w1, hx, eq_true hlt, hg]
      exact hm
  · have c1 : ((i : Int) < (gs.length : Int)) = False := eq_false (by omega)
    rw [List.drop_of_length_le (by omega)] at j2
    rw [chainM_at h8 j2]
    simp only [go_sem, ↓reduceIte, reduceCtorEq, Nat.reduceAdd, Nat.reduceMul, Nat.reduceEqDiff, Nat.reduceSub, Nat.reduceLT, Nat.reduceLeDiff, Nat.reduceAnd, Nat.reduceShiftRight, Nat.reduceBEq, Nat.reduceBNe, Nat.reduceBneDiff, Nat.reduceBeqDiff, Int.reduceToNat, Int.reduceLE, Int.reduceLT, Int.reduceEq, c1]
theorem ok_spec_ChainEnd : MChain.ok Tryz.prog 6 := FM.f2_ok fun p gs h => f_spec_ChainEnd p gs h

def H_impl_ChainEnd : Hint := { fs := [(28, MGrc)], kp := [(0, [0, 1]), (1, [1, 2, 4]), (2, [4]), (3, [1, 2, 4]), (4, [1, 4, 6]), (5, [4, 6, 14, 15, 16]), (6, [4, 6, 14, 15, 16]), (7, [4, 6, 8, 14, 15, 16]), (8, [4]), (9, [4, 6, 8, 14, 15, 16]), (10, [4, 6, 14, 15, 16]), (11, [4, 6])], an := [] }
attribute [go_sem] H_impl_ChainEnd
theorem ok_H_impl_ChainEnd : H_impl_ChainEnd.ok Tryz.prog := AllOk.okR (.cons ok_impl_GrowthCheck .nil) .nil mix
theorem f_impl_ChainEnd (p : Point) (gs : List Growth) (h : gs.length ≤ 1048576 ∧ ∀ g ∈ gs, g.2.length ≤ 1048576) : VFun Tryz.prog 7 [(CE.st cPoint).enc p, (eList cGrowth).enc gs] [] (eEnd.enc (chainM p gs)) [] := by
  obtain ⟨h1, h2⟩ := h
  refine VFun_pure (n := 32) (rs := [.cell 4 27, .tmp 5]) Tryz.func7 rfl rfl rfl rfl H_impl_ChainEnd ok_H_impl_ChainEnd _ _ (Nat.le_of_ble_eq_true rfl) (by kernel_rfl) ?_
  by_cases h8 : 256 < gs.length
  · have d8 : (256 < (gs.length : Int)) = True := eq_true (by omega)
    rw [chainM_big h8]
    simp only [go_sem, ↓reduceIte, reduceCtorEq, Nat.reduceAdd, Nat.reduceMul, Nat.reduceEqDiff, Nat.reduceSub, Nat.reduceLT, Nat.reduceLeDiff, Nat.reduceAnd, Nat.reduceShiftRight, Nat.reduceBEq, Nat.reduceBNe, Nat.reduceBneDiff, Nat.reduceBeqDiff, Int.reduceToNat, Int.reduceLE, Int.reduceLT, Int.reduceEq, d8]
  have d8 : (256 < (gs.length : Int)) = False := eq_false (by omega)
  simp only [go_sem, ↓reduceIte, reduceCtorEq, Nat.reduceAdd, Nat.reduceMul, Nat.reduceEqDiff, Nat.reduceSub, Nat.reduceLT, Nat.reduceLeDiff, Nat.reduceAnd, Nat.reduceShiftRight, Nat.reduceBEq, Nat.reduceBNe, Nat.reduceBneDiff, Nat.reduceBeqDiff, Int.reduceToNat, Int.reduceLE, Int.reduceLT, Int.reduceEq, d8]
  refine LoopV.go (H := H_impl_ChainEnd) ok_H_impl_ChainEnd (by kernel_rfl) (fun y : Nat × Point => ⟨[(4, .x (.o (.p (1, 100) 0 0 1))), (6, .x (.o (.p (1, 101) 0 0 1))), (14, .x (.o (.c (.s (gs.map cGrowth.enc))))), (15, sc (.int .i64 gs.length)), (16, sc (.int .i64 y.1))], [((1, 100), bxPt (0, 0, 0, 0, 0)), ((1, 101), bxPt y.2)], 2⟩) (fun y => gs.length - y.1) (fun y => y.1 ≤ gs.length ∧ chainF p gs = chainF y.2 (gs.drop y.1)) ?_ (0, p) ⟨Nat.zero_le _, rfl⟩
  rintro ⟨i, q⟩ ⟨j1, j2⟩
  dsimp only at j1 j2
  have w1 : IntKind.i64.wrap ((i : Int) + 1) = ((i + 1 : Nat) : Int) := by rw [wrap64] <;> omega
  by_cases hlt : i < gs.length
  · have c1 : ((i : Int) < (gs.length : Int)) = True := eq_true (by omega)
    have hx := List.getElem?_eq_getElem hlt
    have hm := h2 _ (List.mem_of_getElem? hx)
    obtain ⟨x, hxx⟩ : ∃ x, gs[i]'hlt = x := ⟨_, rfl⟩
    rw [hxx] at hx hm
    rw [chainF_step hx] at j2
    by_cases hg : grcM q x.1 x.2 = 0
    · rw [if_pos hg] at j2
      simp only [go_sem, ↓reduceIte, reduceCtorEq, Nat.reduceAdd, Nat.reduceMul, Nat.reduceEqDiff, Nat.reduceSub, Nat.reduceLT, Nat.reduceLeDiff, Nat.reduceAnd, Nat.reduceShiftRight, Nat.reduceBEq, Nat.reduceBNe, Nat.reduceBneDiff, Nat.reduceBeqDiff, Int.reduceToNat, Int.reduceLE, Int.reduceLT, Int.reduceEq, c1, w1, hx, eq_true hlt, eq_true hg]
      exact ⟨hm, (i + 1, x.1), ⟨by dsimp only; omega, j2⟩, by dsimp only; omega, rfl⟩
    · rw [if_neg hg] at j2
      rw [chainM_no h8 j2]
      simp only [go_sem, ↓reduceIte, reduceCtorEq, Nat.reduceAdd, Nat.reduceMul, Nat.reduceEqDiff, Nat.reduceSub, Nat.reduceLT, Nat.reduceLeDiff, Nat.reduceAnd, Nat.reduceShiftRight, Nat.reduceBEq, Nat.reduceBNe, Nat.reduceBneDiff, Nat.reduceBeqDiff, Int.reduceToNat, Int.reduceLE, Int.reduceLT, Int.reduceEq, c1, w1, hx, eq_true hlt, hg]
      exact hm
  · have c1 : ((i : Int) < (gs.length : Int)) = False := eq_false (by omega)
    rw [List.drop_of_length_le (by omega)] at j2
    rw [chainM_at h8 j2]
    simp only [go_sem, ↓reduceIte, reduceCtorEq, Nat.reduceAdd, Nat.reduceMul, Nat.reduceEqDiff, Nat.reduceSub, Nat.reduceLT, Nat.reduceLeDiff, Nat.reduceAnd, Nat.reduceShiftRight, Nat.reduceBEq, Nat.reduceBNe, Nat.reduceBneDiff, Nat.reduceBeqDiff, Int.reduceToNat, Int.reduceLE, Int.reduceLT, Int.reduceEq, c1]
theorem ok_impl_ChainEnd : MChain.ok Tryz.prog 7 := FM.f2_ok fun p gs h => f_impl_ChainEnd p gs h

end Go.Proofs.YtcgkhljolflenaaGreatW.V

