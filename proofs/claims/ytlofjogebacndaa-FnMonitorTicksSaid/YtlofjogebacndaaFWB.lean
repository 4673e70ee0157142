/- Functions: the bytes of an ask and of a fetch. No condition but each theorem's own. -/
import Derived.Test.YtlofjogebacndaaFWA
namespace Go.Proofs.YtlofjogebacndaaW.V
open Go Go.Proofs
set_option linter.unusedSimpArgs false
set_option linter.unusedVariables false
set_option maxRecDepth 8000
set_option maxHeartbeats 4000000

set_option synthInstance.maxSize 1000

/-- A number in bytes, the higher first. -/
def nbM : Nat → Nat → List UInt8
  | 0, _ => []
  | k + 1, n => nbM k (n / 256) ++ [UInt8.ofNat (n % 256)]
theorem wr_div (v : Nat) (h : v ≤ 16777215) : IntKind.i64.wrap ((v : Int).tdiv 256) = ((v / 256 : Nat) : Int) := by
  have e : (v : Int).tdiv 256 = ((v / 256 : Nat) : Int) := rfl
  rw [e, wrap64] <;> omega
theorem wr_mod (v : Nat) : IntKind.u8.wrap ((v : Int).tmod 256) = ((v % 256 : Nat) : Int) := by
  have e : (v : Int).tmod 256 = ((v % 256 : Nat) : Int) := rfl
  rw [e]
  simp [IntKind.wrap, IntKind.bits, IntKind.signed]
theorem nbM_len : ∀ k n, (nbM k n).length = k
  | 0, _ => rfl
  | k + 1, n => by rw [nbM, List.length_append, nbM_len]; rfl

abbrev MNum5N (N : Nat) : FM := .f2 (eInt .i64) (eInt .i64) eStr.enc (fun v n => ⟨(nbM n.toNat v.toNat).toArray⟩) (fun v n => n.toNat < N ∧ (0 ≤ v ∧ v ≤ 16777215) ∧ 0 ≤ n ∧ n ≤ 3)
attribute [go_sem] MNum5N
def H_spec_l5Num (N : Nat) : Hint := { fs := [(85, (MNum5N N))], kp := [(0, [0, 1]), (1, [0, 1]), (2, []), (3, [0, 1])], an := [(3, [0, 1, 0, 4, 15, 0, 32, 96, 224, 480, 1023, 2047])] }
attribute [go_sem] H_spec_l5Num
theorem ok_H_spec_l5Num (N : Nat) (ih : (MNum5N N).ok Try.prog 85) : (H_spec_l5Num N).ok Try.prog := AllOk.okR (.cons ih .nil) .nil mix
theorem f_l5Num : ∀ (N : Nat) (v n : Int), (n.toNat < N ∧ (0 ≤ v ∧ v ≤ 16777215) ∧ 0 ≤ n ∧ n ≤ 3) → VFun Try.prog 85 [(eInt .i64).enc v, (eInt .i64).enc n] [] (eStr.enc ⟨(nbM n.toNat v.toNat).toArray⟩) []
  | 0, v, n, h => absurd h.1 (by omega)
  | N + 1, v, n, h => by
    have ih : (MNum5N N).ok Try.prog 85 := FM.f2_ok fun v n h => f_l5Num N v n h
    obtain ⟨h0, h1, h2⟩ := h
    obtain ⟨n, rfl⟩ := Int.eq_ofNat_of_zero_le h2.1
    obtain ⟨v, rfl⟩ := Int.eq_ofNat_of_zero_le h1.1
    simp only [Int.toNat_natCast] at h0 ⊢
    refine VFun_pure (n := 18) (rs := [.tmp 4]) Try.func85 rfl rfl rfl rfl (H_spec_l5Num N) (ok_H_spec_l5Num N ih) _ _ (Nat.le_of_ble_eq_true rfl) (by kernel_rfl) ?_
    cases n with
    | zero =>
      simp only [go_sem, ↓reduceIte, reduceCtorEq, Nat.reduceAdd, Nat.reduceMul, Nat.reduceEqDiff, Nat.reduceSub, Nat.reduceLT, Nat.reduceLeDiff, Nat.reduceAnd, Nat.reduceShiftRight, Nat.reduceBEq, Nat.reduceBNe, Nat.reduceBneDiff, Nat.reduceBeqDiff, Int.reduceToNat, Int.reduceLE, Int.reduceLT, Int.reduceEq]; rfl
    | succ n =>
      have c1 : (((n + 1 : Nat) : Int) < 1) = False := eq_false (by omega)
      have w1 : IntKind.i64.wrap (((n + 1 : Nat) : Int) - 1) = (n : Int) := by rw [wrap64] <;> omega
      have hd := wr_div v (by omega)
      have hm := wr_mod v
      have hnl := nbM_len n (v / 256)
      simp only [go_sem, ↓reduceIte, reduceCtorEq, Nat.reduceAdd, Nat.reduceMul, Nat.reduceEqDiff, Nat.reduceSub, Nat.reduceLT, Nat.reduceLeDiff, Nat.reduceAnd, Nat.reduceShiftRight, Nat.reduceBEq, Nat.reduceBNe, Nat.reduceBneDiff, Nat.reduceBeqDiff, Int.reduceToNat, Int.reduceLE, Int.reduceLT, Int.reduceEq, c1, w1, hd, hm, hnl]
      exact ⟨⟨by omega, by omega, by omega⟩, by omega, rfl⟩
abbrev MNum5 : FM := .f2 (eInt .i64) (eInt .i64) eStr.enc (fun v n => ⟨(nbM n.toNat v.toNat).toArray⟩) (fun v n => (0 ≤ v ∧ v ≤ 16777215) ∧ 0 ≤ n ∧ n ≤ 3)
attribute [go_sem] MNum5
theorem ok_spec_l5Num : MNum5.ok Try.prog 85 := FM.f2_ok fun v n h => f_l5Num (n.toNat + 1) v n ⟨by omega, h⟩

def H_impl_numberBytes : Hint := { fs := [], kp := [(0, [0, 1]), (1, [0, 1]), (2, [0, 1, 5]), (3, [0, 5, 6]), (5, [0, 5, 6]), (6, [0, 5, 6]), (4, [0, 5, 6]), (7, [5])], an := [] }
attribute [go_sem] H_impl_numberBytes
theorem ok_H_impl_numberBytes : H_impl_numberBytes.ok Try.prog := AllOk.okR .nil .nil mix
theorem f_numberBytes (v n : Nat) (h : v ≤ 16777215) (hn : n ≤ 3) : VFun Try.prog 129 [(eInt .i64).enc v, (eInt .i64).enc n] [] ((eList cU8).enc (nbM n v)) [] := by
  refine VFun_pure (n := 24) (rs := [.tmp 4]) Try.func129 rfl rfl rfl rfl H_impl_numberBytes ok_H_impl_numberBytes _ _ (Nat.le_of_ble_eq_true rfl) (by kernel_rfl) ?_
  simp only [go_sem, ↓reduceIte, reduceCtorEq, Nat.reduceAdd, Nat.reduceMul, Nat.reduceEqDiff, Nat.reduceSub, Nat.reduceLT, Nat.reduceLeDiff, Nat.reduceAnd, Nat.reduceShiftRight, Nat.reduceBEq, Nat.reduceBNe, Nat.reduceBneDiff, Nat.reduceBeqDiff, Int.reduceToNat, Int.reduceLE, Int.reduceLT, Int.reduceEq]
  refine ⟨⟨by omega, by omega, by omega⟩, ?_⟩
  have h0 : List.replicate n ([.v (.int .u8 0)] : List C) = (List.replicate n (0 : UInt8) ++ []).map cU8.enc := by
    rw [List.append_nil, List.map_replicate]; rfl
  have w0 : IntKind.i64.wrap ((n : Int) - 1) = (n : Int) - 1 := by rw [wrap64] <;> omega
  refine LoopV.go (H := H_impl_numberBytes) ok_H_impl_numberBytes (by kernel_rfl) (fun y : Nat × Nat × List UInt8 => ⟨[(0, sc (.int .i64 y.2.1)), (5, .x (.o (.h (1, 100) 0 n n))), (6, sc (.int .i64 ((y.1 : Int) - 1)))], [((1, 100), .row 1 ((List.replicate y.1 (0 : UInt8) ++ y.2.2).map cU8.enc))], 2⟩) (fun y => y.1) (fun y => y.1 ≤ n ∧ y.2.2.length = n - y.1 ∧ nbM n v = nbM y.1 y.2.1 ++ y.2.2 ∧ y.2.1 ≤ 16777215) ?_ (n, v, []) ⟨Nat.le_refl _, by simp, by simp, h⟩ (by rw [w0, h0]; rfl)
  rintro ⟨i, c, t⟩ ⟨hi, ht, hv, hc⟩
  dsimp only at hi ht hv hc
  have hlen : (List.replicate i (0 : UInt8) ++ t).length = n := by rw [List.length_append, List.length_replicate]; omega
  cases i with
  | zero =>
    have c1 : ((0 : Int) ≤ 0 - 1) = False := eq_false (by decide)
    have hnn : t.length = n := ht
    simp only [go_sem, ↓reduceIte, reduceCtorEq, Nat.reduceAdd, Nat.reduceMul, Nat.reduceEqDiff, Nat.reduceSub, Nat.reduceLT, Nat.reduceLeDiff, Nat.reduceAnd, Nat.reduceShiftRight, Nat.reduceBEq, Nat.reduceBNe, Nat.reduceBneDiff, Nat.reduceBeqDiff, Int.reduceToNat, Int.reduceLE, Int.reduceLT, Int.reduceEq, c1, hnn]
    rw [hv]; rfl
  | succ k =>
    have e1 : ((k + 1 : Nat) : Int) - 1 = (k : Int) := by omega
    have w1 : IntKind.i64.wrap ((k : Int) - 1) = (k : Int) - 1 := by rw [wrap64] <;> omega
    have hd := wr_div c hc
    have hm := wr_mod c
    have hs : ∀ x : UInt8, (List.replicate (k + 1) (0 : UInt8) ++ t).set k x = List.replicate k 0 ++ (x :: t) := fun x => by
      rw [List.replicate_succ', List.append_assoc, List.set_append_right _ _ (by simp)]; simp
    generalize List.replicate (k + 1) (0 : UInt8) ++ t = l at *
    have hkl : (k < l.length) = True := eq_true (by omega)
    obtain ⟨x, hx⟩ : ∃ r, l[k]? = some r := ⟨_, List.getElem?_eq_getElem (by omega)⟩
    have hkn : (k < n) = True := eq_true (by omega)
    have hset : (l.map cU8.enc).set k [.v (.int .u8 ((c % 256 : Nat) : Int))] = (List.replicate k 0 ++ UInt8.ofNat (c % 256) :: t).map cU8.enc := by
      rw [← hs, List.map_set, cU8_enc, UInt8.toNat_ofNat_of_lt' (show c % 256 < 256 by omega)]
    simp only [go_sem, ↓reduceIte, reduceCtorEq, Nat.reduceAdd, Nat.reduceMul, Nat.reduceEqDiff, Nat.reduceSub, Nat.reduceLT, Nat.reduceLeDiff, Nat.reduceAnd, Nat.reduceShiftRight, Nat.reduceBEq, Nat.reduceBNe, Nat.reduceBneDiff, Nat.reduceBeqDiff, Int.reduceToNat, Int.reduceLE, Int.reduceLT, Int.reduceEq, e1, w1, hd, hm, hkl, hx, hlen, hkn, hset]
    refine ⟨(k, c / 256, UInt8.ofNat (c % 256) :: t), ⟨by dsimp only; omega, by simp only [List.length_cons]; omega, ?_, by dsimp only; omega⟩, by dsimp only; omega, rfl⟩
    rw [hv, nbM, List.append_assoc]; rfl
abbrev MNumB : FM := .f2 (eInt .i64) (eInt .i64) (eList cU8).enc (fun v n => nbM n.toNat v.toNat) (fun v n => (0 ≤ v ∧ v ≤ 16777215) ∧ 0 ≤ n ∧ n ≤ 3)
attribute [go_sem] MNumB
theorem ok_impl_numberBytes : MNumB.ok Try.prog 129 := FM.f2_ok fun v n h => by
  obtain ⟨n, rfl⟩ := Int.eq_ofNat_of_zero_le h.2.1
  obtain ⟨v, rfl⟩ := Int.eq_ofNat_of_zero_le h.1.1
  exact f_numberBytes v n (by omega) (by omega)

/-- The bytes of an ask and of a fetch. -/
def tickMsg (m : Msg) : Prop := (∃ s : Nat, 1 ≤ s ∧ s ≤ 1000000 ∧ m = (1, (s : Int), 0, 0, (0, 0, 0, 0), 0, [], [])) ∨ (∃ f c : Nat, f ≤ 256 ∧ 1 ≤ c ∧ c ≤ 8 ∧ m = (7, 0, (f : Int), 0, (0, 0, 0, 0), (c : Int), [], []))
def tickB (m : Msg) : ByteArray := if m.1 = 1 then ⟨([1] ++ nbM 3 m.2.1.toNat).toArray⟩ else ⟨([7] ++ nbM 2 m.2.2.1.toNat ++ nbM 1 m.2.2.2.2.2.1.toNat).toArray⟩
theorem tick_ok {m : Msg} (h : tickMsg m) : wireOkM m = true := by
  rcases h with ⟨s, h1, h2, rfl⟩ | ⟨f, c, h1, h2, h3, rfl⟩
  · have e : decide ((1 : Int) ≤ (s : Int) ∧ (s : Int) ≤ 1000000) = true := decide_eq_true (by omega)
    simp [wireOkM, partsL, partOkM, e]
  · simp [wireOkM, partsL, partOkM]; omega
abbrev MWire : FM := .f1 (CE.st cMsg) eStr.enc tickB tickMsg
attribute [go_sem] MWire

def H_impl_wireBytes : Hint := { fs := [(125, MHashBytes), (128, MPartsOf), (129, MNumB)], kp := [(0, [0]), (1, [1]), (2, [1, 3]), (3, [1, 3, 17]), (4, [1, 3, 17, 18]), (5, [1, 3, 5, 17]), (6, [1, 3, 17, 21]), (7, [1, 3, 17]), (8, [1, 3, 17, 21]), (9, [1, 3, 17]), (10, [1, 3, 17, 21]), (11, [1, 3, 17]), (12, [1, 3, 17, 21]), (13, [1, 3, 17]), (14, [1, 3, 17, 21]), (15, [1, 3, 17]), (16, [1, 3, 17, 21]), (17, [1, 3, 17]), (18, [1, 3, 17]), (19, [1, 3, 17, 66, 67, 68]), (20, [1, 3, 17, 66, 67, 68]), (21, [1, 3, 7, 17, 66, 67, 68]), (22, [1, 3, 17, 66, 67, 68]), (23, [1, 3, 17, 21]), (24, [1, 3, 17]), (25, [1, 3, 17]), (26, [1, 3, 17, 86, 87, 88]), (27, [1, 3, 17, 86, 87, 88]), (28, [1, 3, 9, 17, 86, 87, 88]), (29, [1, 3, 9, 17, 86, 87, 88]), (30, [1, 3, 17, 86, 87, 88]), (31, [3])], an := [] }
attribute [go_sem] H_impl_wireBytes
theorem ok_H_impl_wireBytes : H_impl_wireBytes.ok Try.prog := AllOk.okR (.cons ok_impl_HashBytes (.cons ok_impl_partsOf (.cons ok_impl_numberBytes .nil))) .nil mix
theorem f_wireBytes (m : Msg) (h : tickMsg m) : VFun Try.prog 116 [(CE.st cMsg).enc m] [] (eStr.enc (tickB m)) [] := by
  rcases h with ⟨s, h1, h2, rfl⟩ | ⟨f, c, h1, h2, h3, rfl⟩
  · have e : (⟨(partsL 1).toArray⟩ : ByteArray) = ⟨#[115]⟩ := rfl
    refine VFun_pure (n := 103) (rs := [.tmp 2]) Try.func116 rfl rfl rfl rfl H_impl_wireBytes ok_H_impl_wireBytes _ _ (Nat.le_of_ble_eq_true rfl) (by kernel_rfl) ?_
    simp only [go_sem, ↓reduceIte, reduceCtorEq, Nat.reduceAdd, Nat.reduceMul, Nat.reduceEqDiff, Nat.reduceSub, Nat.reduceLT, Nat.reduceLeDiff, Nat.reduceAnd, Nat.reduceShiftRight, Nat.reduceBEq, Nat.reduceBNe, Nat.reduceBneDiff, Nat.reduceBeqDiff, Int.reduceToNat, Int.reduceLE, Int.reduceLT, Int.reduceEq, e]
    have x1 : nextV ⟨#[115]⟩ 0 = some (115, 1) := rfl
    have x2 : nextV ⟨#[115]⟩ 1 = none := rfl
    have hn3 := nbM_len 3 s
    have e1 : IntKind.u8.wrap 1 = 1 := rfl
    have d1 : cU8.dec [.v (.int .u8 1)] = some 1 := rfl
    have k115_115 : (((115 : Nat) : Int) = 115) = True := eq_true (by decide)
    have k115_102 : (((115 : Nat) : Int) = 102) = False := eq_false (by decide)
    have k115_122 : (((115 : Nat) : Int) = 122) = False := eq_false (by decide)
    have k115_114 : (((115 : Nat) : Int) = 114) = False := eq_false (by decide)
    have k115_99 : (((115 : Nat) : Int) = 99) = False := eq_false (by decide)
    refine LoopV.step ok_H_impl_wireBytes (by kernel_rfl) ?_
    simp only [go_sem, ↓reduceIte, reduceCtorEq, Nat.reduceAdd, Nat.reduceMul, Nat.reduceEqDiff, Nat.reduceSub, Nat.reduceLT, Nat.reduceLeDiff, Nat.reduceAnd, Nat.reduceShiftRight, Nat.reduceBEq, Nat.reduceBNe, Nat.reduceBneDiff, Nat.reduceBeqDiff, Int.reduceToNat, Int.reduceLE, Int.reduceLT, Int.reduceEq, x1, hn3, e1, d1, k115_115]
    refine ⟨by omega, ?_⟩
    refine LoopV.step ok_H_impl_wireBytes (by kernel_rfl) ?_
    simp only [go_sem, ↓reduceIte, reduceCtorEq, Nat.reduceAdd, Nat.reduceMul, Nat.reduceEqDiff, Nat.reduceSub, Nat.reduceLT, Nat.reduceLeDiff, Nat.reduceAnd, Nat.reduceShiftRight, Nat.reduceBEq, Nat.reduceBNe, Nat.reduceBneDiff, Nat.reduceBeqDiff, Int.reduceToNat, Int.reduceLE, Int.reduceLT, Int.reduceEq, x2, hn3, e1, d1]
    rfl
  · have e : (⟨(partsL 7).toArray⟩ : ByteArray) = ⟨#[102, 99]⟩ := rfl
    refine VFun_pure (n := 103) (rs := [.tmp 2]) Try.func116 rfl rfl rfl rfl H_impl_wireBytes ok_H_impl_wireBytes _ _ (Nat.le_of_ble_eq_true rfl) (by kernel_rfl) ?_
    simp only [go_sem, ↓reduceIte, reduceCtorEq, Nat.reduceAdd, Nat.reduceMul, Nat.reduceEqDiff, Nat.reduceSub, Nat.reduceLT, Nat.reduceLeDiff, Nat.reduceAnd, Nat.reduceShiftRight, Nat.reduceBEq, Nat.reduceBNe, Nat.reduceBneDiff, Nat.reduceBeqDiff, Int.reduceToNat, Int.reduceLE, Int.reduceLT, Int.reduceEq, e]
    have x1 : nextV ⟨#[102, 99]⟩ 0 = some (102, 1) := rfl
    have x2 : nextV ⟨#[102, 99]⟩ 1 = some (99, 1) := rfl
    have x3 : nextV ⟨#[102, 99]⟩ 2 = none := rfl
    have hn2 := nbM_len 2 f
    have hn1 := nbM_len 1 c
    have e1 : IntKind.u8.wrap 7 = 7 := rfl
    have d1 : cU8.dec [.v (.int .u8 7)] = some 7 := rfl
    have k102_115 : (((102 : Nat) : Int) = 115) = False := eq_false (by decide)
    have k102_102 : (((102 : Nat) : Int) = 102) = True := eq_true (by decide)
    have k102_122 : (((102 : Nat) : Int) = 122) = False := eq_false (by decide)
    have k102_114 : (((102 : Nat) : Int) = 114) = False := eq_false (by decide)
    have k102_99 : (((102 : Nat) : Int) = 99) = False := eq_false (by decide)
    have k99_115 : (((99 : Nat) : Int) = 115) = False := eq_false (by decide)
    have k99_102 : (((99 : Nat) : Int) = 102) = False := eq_false (by decide)
    have k99_122 : (((99 : Nat) : Int) = 122) = False := eq_false (by decide)
    have k99_114 : (((99 : Nat) : Int) = 114) = False := eq_false (by decide)
    have k99_99 : (((99 : Nat) : Int) = 99) = True := eq_true (by decide)
    refine LoopV.step ok_H_impl_wireBytes (by kernel_rfl) ?_
    simp only [go_sem, ↓reduceIte, reduceCtorEq, Nat.reduceAdd, Nat.reduceMul, Nat.reduceEqDiff, Nat.reduceSub, Nat.reduceLT, Nat.reduceLeDiff, Nat.reduceAnd, Nat.reduceShiftRight, Nat.reduceBEq, Nat.reduceBNe, Nat.reduceBneDiff, Nat.reduceBeqDiff, Int.reduceToNat, Int.reduceLE, Int.reduceLT, Int.reduceEq, x1, hn2, e1, d1, k102_115, k102_102]
    refine ⟨by omega, ?_⟩
    refine LoopV.step ok_H_impl_wireBytes (by kernel_rfl) ?_
    simp only [go_sem, ↓reduceIte, reduceCtorEq, Nat.reduceAdd, Nat.reduceMul, Nat.reduceEqDiff, Nat.reduceSub, Nat.reduceLT, Nat.reduceLeDiff, Nat.reduceAnd, Nat.reduceShiftRight, Nat.reduceBEq, Nat.reduceBNe, Nat.reduceBneDiff, Nat.reduceBeqDiff, Int.reduceToNat, Int.reduceLE, Int.reduceLT, Int.reduceEq, x2, hn2, hn1, e1, d1, k99_115, k99_102, k99_122, k99_114, k99_99]
    refine ⟨by omega, ?_⟩
    refine LoopV.step ok_H_impl_wireBytes (by kernel_rfl) ?_
    simp only [go_sem, ↓reduceIte, reduceCtorEq, Nat.reduceAdd, Nat.reduceMul, Nat.reduceEqDiff, Nat.reduceSub, Nat.reduceLT, Nat.reduceLeDiff, Nat.reduceAnd, Nat.reduceShiftRight, Nat.reduceBEq, Nat.reduceBNe, Nat.reduceBneDiff, Nat.reduceBeqDiff, Int.reduceToNat, Int.reduceLE, Int.reduceLT, Int.reduceEq, x3, hn2, hn1, e1, d1]
    rfl
theorem ok_impl_wireBytes : MWire.ok Try.prog 116 := FM.f1_ok fun m h => f_wireBytes m h

theorem tick_len {m : Msg} (h : tickMsg m) : m.2.2.2.2.2.2.1.length ≤ 1048576 ∧ m.2.2.2.2.2.2.2.length ≤ 1048576 := by
  rcases h with ⟨s, h1, h2, rfl⟩ | ⟨f, c, h1, h2, h3, rfl⟩ <;> exact ⟨by simp, by simp⟩
def H_impl_WireBytes : Hint := { fs := [(115, MWireOk), (116, MWire)], kp := [(0, [0]), (1, [1]), (2, []), (3, [1])], an := [] }
attribute [go_sem] H_impl_WireBytes
theorem ok_H_impl_WireBytes : H_impl_WireBytes.ok Try.prog := AllOk.okR (.cons ok_impl_WireOk (.cons ok_impl_wireBytes .nil)) .nil mix
theorem f_impl_WireBytes (m : Msg) (h : tickMsg m) : VFun Try.prog 88 [(CE.st cMsg).enc m] [] (eStr.enc (tickB m)) [] := by
  have hk := tick_ok h
  have hl := tick_len h
  refine VFun_pure (n := 8) (rs := [.tmp 2]) Try.func88 rfl rfl rfl rfl H_impl_WireBytes ok_H_impl_WireBytes _ _ (Nat.le_of_ble_eq_true rfl) (by kernel_rfl) ?_
  simp only [go_sem, ↓reduceIte, reduceCtorEq, Nat.reduceAdd, Nat.reduceMul, Nat.reduceEqDiff, Nat.reduceSub, Nat.reduceLT, Nat.reduceLeDiff, Nat.reduceAnd, Nat.reduceShiftRight, Nat.reduceBEq, Nat.reduceBNe, Nat.reduceBneDiff, Nat.reduceBeqDiff, Int.reduceToNat, Int.reduceLE, Int.reduceLT, Int.reduceEq, hk]
  exact ⟨hl, h⟩
theorem ok_impl_WireBytes : MWire.ok Try.prog 88 := FM.f1_ok fun m h => f_impl_WireBytes m h

theorem tickB_size (m : Msg) : (tickB m).size = 4 := by
  unfold tickB
  split
  · show ([1] ++ nbM 3 m.2.1.toNat).length = 4
    rw [List.length_append, nbM_len]; rfl
  · show ([7] ++ nbM 2 m.2.2.1.toNat ++ nbM 1 m.2.2.2.2.2.1.toNat).length = 4
    rw [List.length_append, List.length_append, nbM_len, nbM_len]; rfl

def H_spec_WireBytes : Hint := { fs := [(67, MHas5), (69, MIn5), (84, MWireOk), (85, MNum5), (86, MHashBytes)], kp := [(0, [0]), (1, [1]), (2, []), (3, [1]), (4, [1, 3]), (5, [1, 3, 4]), (6, [1, 3, 4]), (7, [1, 3, 4]), (8, [1, 3, 4]), (9, [1, 3, 4]), (10, [1, 3, 4]), (11, [1, 3, 4]), (12, [1, 3, 4]), (13, [1, 3, 4]), (14, [1, 3, 4]), (15, [1, 3, 4]), (16, [1, 3, 4]), (17, [1, 3, 4]), (18, [1, 3, 4, 5]), (20, [1, 3, 4, 5]), (19, [1, 3, 4, 5]), (21, [1, 3, 4]), (22, [1, 4]), (23, [1, 4]), (24, [1, 4, 6]), (26, [1, 4, 6]), (25, [1, 4, 6]), (27, [4])], an := [(26, [0, 0, 2, 0, 14, 30, 62, 126, 255, 0, 512, 0, 3584, 7680, 16383, 32767])] }
attribute [go_sem] H_spec_WireBytes
theorem ok_H_spec_WireBytes : H_spec_WireBytes.ok Try.prog := AllOk.okR (.cons ok_spec_l5Has (.cons ok_spec_l5In (.cons ok_spec_WireOk (.cons ok_spec_l5Num (.cons ok_spec_HashBytes .nil))))) .nil mix
theorem f_spec_WireBytes (m : Msg) (h : tickMsg m) : VFun Try.prog 41 [(CE.st cMsg).enc m] [] (eStr.enc (tickB m)) [] := by
  have hk := tick_ok h
  have hl := tick_len h
  rcases h with ⟨s, h1, h2, rfl⟩ | ⟨f, c, h1, h2, h3, rfl⟩
  · dsimp only at hl
    have e : (⟨(partsN 1).toArray⟩ : ByteArray) = ⟨#[115]⟩ := rfl
    have n0 : (partsN 1).length ≤ 1000000 := by decide
    have n1 : (partsN 1).contains 115 = true := by decide
    have n2 : (partsN 1).contains 102 = false := by decide
    have n3 : (partsN 1).contains 110 = false := by decide
    have n4 : (partsN 1).contains 114 = false := by decide
    have n5 : (partsN 1).contains 99 = false := by decide
    have n6 : (partsN 1).contains 112 = false := by decide
    have n7 : (partsN 1).contains 108 = false := by decide
    have hn3 := nbM_len 3 s
    refine VFun_pure (n := 105) (rs := [.tmp 2]) Try.func41 rfl rfl rfl rfl H_spec_WireBytes ok_H_spec_WireBytes _ _ (Nat.le_of_ble_eq_true rfl) (by kernel_rfl) ?_
    simp only [go_sem, ↓reduceIte, reduceCtorEq, Nat.reduceAdd, Nat.reduceMul, Nat.reduceEqDiff, Nat.reduceSub, Nat.reduceLT, Nat.reduceLeDiff, Nat.reduceAnd, Nat.reduceShiftRight, Nat.reduceBEq, Nat.reduceBNe, Nat.reduceBneDiff, Nat.reduceBeqDiff, Int.reduceToNat, Int.reduceLE, Int.reduceLT, Int.reduceEq, hk, eq_true n0, n1, n2, n3, n4, n5, n6, n7, hn3]
    exact ⟨by omega, by decide, rfl⟩
  · dsimp only at hl
    have n0 : (partsN 7).length ≤ 1000000 := by decide
    have n1 : (partsN 7).contains 115 = false := by decide
    have n2 : (partsN 7).contains 102 = true := by decide
    have n3 : (partsN 7).contains 110 = false := by decide
    have n4 : (partsN 7).contains 114 = false := by decide
    have n5 : (partsN 7).contains 99 = true := by decide
    have n6 : (partsN 7).contains 112 = false := by decide
    have n7 : (partsN 7).contains 108 = false := by decide
    have hn2 := nbM_len 2 f
    have hn1 := nbM_len 1 c
    refine VFun_pure (n := 105) (rs := [.tmp 2]) Try.func41 rfl rfl rfl rfl H_spec_WireBytes ok_H_spec_WireBytes _ _ (Nat.le_of_ble_eq_true rfl) (by kernel_rfl) ?_
    simp only [go_sem, ↓reduceIte, reduceCtorEq, Nat.reduceAdd, Nat.reduceMul, Nat.reduceEqDiff, Nat.reduceSub, Nat.reduceLT, Nat.reduceLeDiff, Nat.reduceAnd, Nat.reduceShiftRight, Nat.reduceBEq, Nat.reduceBNe, Nat.reduceBneDiff, Nat.reduceBeqDiff, Int.reduceToNat, Int.reduceLE, Int.reduceLT, Int.reduceEq, hk, eq_true n0, n1, n2, n3, n4, n5, n6, n7, hn2, hn1]
    exact ⟨by omega, by decide, by omega, by decide, rfl⟩
theorem ok_spec_WireBytes : MWire.ok Try.prog 41 := FM.f1_ok fun m h => f_spec_WireBytes m h

abbrev MLetter : FM := .f3 (eInt .i64) (eInt .i64) (CE.st cMsg) (CE.st cLetter).enc (fun a b m => (a, b, tickB m)) (fun _ _ m => tickMsg m)
attribute [go_sem] MLetter
def H_impl_letter : Hint := { fs := [(88, MWire)], kp := [(0, [0, 1, 2]), (1, [0, 1, 5, 6])], an := [] }
attribute [go_sem] H_impl_letter
theorem ok_H_impl_letter : H_impl_letter.ok Try.prog := AllOk.okR (.cons ok_impl_WireBytes .nil) .nil mix
theorem f_letter (a b : Int) (m : Msg) (h : tickMsg m) : VFun Try.prog 44 [(eInt .i64).enc a, (eInt .i64).enc b, (CE.st cMsg).enc m] [] ((CE.st cLetter).enc (a, b, tickB m)) [] := by
  refine VFun_pure (n := 12) (rs := [.cell 6 65]) Try.func44 rfl rfl rfl rfl H_impl_letter ok_H_impl_letter _ _ (Nat.le_of_ble_eq_true rfl) (by kernel_rfl) ?_
  simp only [go_sem, ↓reduceIte, reduceCtorEq, Nat.reduceAdd, Nat.reduceMul, Nat.reduceEqDiff, Nat.reduceSub, Nat.reduceLT, Nat.reduceLeDiff, Nat.reduceAnd, Nat.reduceShiftRight, Nat.reduceBEq, Nat.reduceBNe, Nat.reduceBneDiff, Nat.reduceBeqDiff, Int.reduceToNat, Int.reduceLE, Int.reduceLT, Int.reduceEq]
  exact h
theorem ok_impl_letter : MLetter.ok Try.prog 44 := FM.f3_ok fun a b m h => f_letter a b m h
end Go.Proofs.YtlofjogebacndaaW.V

