/- Functions: messages, and whether they are ok. No condition but each theorem's own. -/
import Derived.Test.YtfccplibbdnkpaaFQC
namespace Go.Proofs.YtfccplibbdnkpaaW.V
open Go Go.Proofs
set_option linter.unusedSimpArgs false
set_option linter.unusedVariables false
set_option maxRecDepth 8000
set_option maxHeartbeats 4000000

set_option synthInstance.maxSize 1000

abbrev Msg := Int × Int × Int × Int × Digest × Int × List Digest × List ByteArray
abbrev cMsg : Cd Msg := cPair (cInt .i64) (cPair (cInt .i64) (cPair (cInt .i64) (cPair (cInt .i64) (cPair cDigest (cPair (cInt .i64) (cPair (cList cDigest) (cList cStr)))))))
attribute [go_sem] cMsg

@[go_sem] theorem dec_115 : cU8.dec [.v (.int .u8 115)] = some 115 := rfl
@[go_sem] theorem dec_102 : cU8.dec [.v (.int .u8 102)] = some 102 := rfl
@[go_sem] theorem dec_122 : cU8.dec [.v (.int .u8 122)] = some 122 := rfl
@[go_sem] theorem dec_110 : cU8.dec [.v (.int .u8 110)] = some 110 := rfl
@[go_sem] theorem dec_114 : cU8.dec [.v (.int .u8 114)] = some 114 := rfl
@[go_sem] theorem dec_99 : cU8.dec [.v (.int .u8 99)] = some 99 := rfl
@[go_sem] theorem dec_112 : cU8.dec [.v (.int .u8 112)] = some 112 := rfl
@[go_sem] theorem dec_108 : cU8.dec [.v (.int .u8 108)] = some 108 := rfl

/-- The parts of a kind. -/
def partsL (k : Int) : List UInt8 := if k = 1 then [115] else if k = 2 ∨ k = 3 ∨ k = 6 then [115, 122, 114] else if k = 4 then [102, 122] else if k = 5 then [102, 122, 112] else if k = 7 then [102, 99] else if k = 8 then [102, 108] else []
def partsN (k : Int) : List UInt8 := if k = 1 then [115] else if k = 2 ∨ k = 3 ∨ k = 6 then [115, 110, 114] else if k = 4 then [102, 110] else if k = 5 then [102, 110, 112] else if k = 7 then [102, 99] else if k = 8 then [102, 108] else []
theorem kind_cases {k : Int} (h : 1 ≤ k ∧ k ≤ 8) : k = 1 ∨ k = 2 ∨ k = 3 ∨ k = 4 ∨ k = 5 ∨ k = 6 ∨ k = 7 ∨ k = 8 := by omega
theorem partsL_no {k : Int} (h : ¬ (1 ≤ k ∧ k ≤ 8)) : partsL k = [] := by
  unfold partsL
  rw [if_neg (by omega), if_neg (by omega), if_neg (by omega), if_neg (by omega), if_neg (by omega), if_neg (by omega)]
theorem partsN_no {k : Int} (h : ¬ (1 ≤ k ∧ k ≤ 8)) : partsN k = [] := by
  unfold partsN
  rw [if_neg (by omega), if_neg (by omega), if_neg (by omega), if_neg (by omega), if_neg (by omega), if_neg (by omega)]
theorem partsL_len (k : Int) : (partsL k).length ≤ 3 := by
  unfold partsL
  repeat' split
  all_goals decide
theorem partsN_len (k : Int) : (partsN k).length ≤ 3 := by
  unfold partsN
  repeat' split
  all_goals decide

def H_impl_partsOf : Hint := { fs := [(72, M166)], kp := [(0, [0]), (1, [0]), (2, []), (3, [0])], an := [] }
attribute [go_sem] H_impl_partsOf
theorem ok_H_impl_partsOf : H_impl_partsOf.ok Try.prog := AllOk.okR (.cons m180 .nil) .nil mix
theorem f_partsOf (k : Int) : VFun Try.prog 99 [(eInt .i64).enc k] [] (eStr.enc ⟨(partsL k).toArray⟩) [] := by
  refine VFun_pure (n := 10) (rs := [.tmp 2]) Try.func99 rfl rfl rfl rfl H_impl_partsOf ok_H_impl_partsOf _ _ (Nat.le_of_ble_eq_true rfl) (by kernel_rfl) ?_
  by_cases h : 1 ≤ k ∧ k ≤ 8
  · rcases kind_cases h with rfl | rfl | rfl | rfl | rfl | rfl | rfl | rfl <;> (simp only [go_sem, ↓reduceIte, reduceCtorEq, Nat.reduceAdd, Nat.reduceMul, Nat.reduceEqDiff, Nat.reduceSub, Nat.reduceLT, Nat.reduceLeDiff, Nat.reduceAnd, Nat.reduceShiftRight, Nat.reduceBEq, Nat.reduceBNe, Nat.reduceBneDiff, Nat.reduceBeqDiff, Int.reduceToNat, Int.reduceLE, Int.reduceLT, Int.reduceEq]; (repeat' apply And.intro) <;> first | rfl | decide)
  · simp only [go_sem, ↓reduceIte, reduceCtorEq, Nat.reduceAdd, Nat.reduceMul, Nat.reduceEqDiff, Nat.reduceSub, Nat.reduceLT, Nat.reduceLeDiff, Nat.reduceAnd, Nat.reduceShiftRight, Nat.reduceBEq, Nat.reduceBNe, Nat.reduceBneDiff, Nat.reduceBeqDiff, Int.reduceToNat, Int.reduceLE, Int.reduceLT, Int.reduceEq, eq_false h, partsL_no h]
abbrev MPartsOf : FM := .f1 (eInt .i64) eStr.enc (fun k => ⟨(partsL k).toArray⟩) (fun _ => True)
attribute [go_sem] MPartsOf
theorem ok_impl_partsOf : MPartsOf.ok Try.prog 99 := FM.f1_ok fun k _ => f_partsOf k

def H_spec_l5Has : Hint := { fs := [], kp := [(0, [0]), (1, [0]), (2, []), (3, [0]), (4, []), (5, [0]), (6, []), (7, [0]), (8, []), (9, [0]), (10, []), (11, [0]), (12, []), (13, [])], an := [] }
attribute [go_sem] H_spec_l5Has
theorem ok_H_spec_l5Has : H_spec_l5Has.ok Try.prog := AllOk.okR .nil .nil mix
theorem f_l5Has (k : Int) : VFun Try.prog 60 [(eInt .i64).enc k] [] (eStr.enc ⟨(partsN k).toArray⟩) [] := by
  refine VFun_pure (n := 23) (rs := [.tmp 2]) Try.func60 rfl rfl rfl rfl H_spec_l5Has ok_H_spec_l5Has _ _ (Nat.le_of_ble_eq_true rfl) (by kernel_rfl) ?_
  by_cases h : 1 ≤ k ∧ k ≤ 8
  · rcases kind_cases h with rfl | rfl | rfl | rfl | rfl | rfl | rfl | rfl <;> (simp only [go_sem, ↓reduceIte, reduceCtorEq, Nat.reduceAdd, Nat.reduceMul, Nat.reduceEqDiff, Nat.reduceSub, Nat.reduceLT, Nat.reduceLeDiff, Nat.reduceAnd, Nat.reduceShiftRight, Nat.reduceBEq, Nat.reduceBNe, Nat.reduceBneDiff, Nat.reduceBeqDiff, Int.reduceToNat, Int.reduceLE, Int.reduceLT, Int.reduceEq]; (repeat' apply And.intro) <;> first | rfl | decide)
  · have c1 : (k = 1) = False := eq_false (by omega)
    have c2 : (k = 2) = False := eq_false (by omega)
    have c3 : (k = 3) = False := eq_false (by omega)
    have c4 : (k = 4) = False := eq_false (by omega)
    have c5 : (k = 5) = False := eq_false (by omega)
    have c6 : (k = 6) = False := eq_false (by omega)
    have c7 : (k = 7) = False := eq_false (by omega)
    have c8 : (k = 8) = False := eq_false (by omega)
    simp only [go_sem, ↓reduceIte, reduceCtorEq, Nat.reduceAdd, Nat.reduceMul, Nat.reduceEqDiff, Nat.reduceSub, Nat.reduceLT, Nat.reduceLeDiff, Nat.reduceAnd, Nat.reduceShiftRight, Nat.reduceBEq, Nat.reduceBNe, Nat.reduceBneDiff, Nat.reduceBeqDiff, Int.reduceToNat, Int.reduceLE, Int.reduceLT, Int.reduceEq, c1, c2, c3, c4, c5, c6, c7, c8, partsN_no h]
abbrev MHas5 : FM := .f1 (eInt .i64) eStr.enc (fun k => ⟨(partsN k).toArray⟩) (fun _ => True)
attribute [go_sem] MHas5
theorem ok_spec_l5Has : MHas5.ok Try.prog 60 := FM.f1_ok fun k _ => f_l5Has k

theorem con_step {l : List UInt8} {c x : UInt8} {i : Nat} (hx : l[i]? = some x) : (l.drop i).contains c = (decide (x = c) || (l.drop (i + 1)).contains c) := by
  obtain ⟨hlt, rfl⟩ := List.getElem?_eq_some_iff.1 hx
  rw [List.drop_eq_getElem_cons hlt, List.contains_cons]
  congr 1
  apply Bool.eq_iff_iff.2
  rw [beq_iff_eq, decide_eq_true_iff]
  exact eq_comm
def H_impl_has : Hint := { fs := [(99, MPartsOf)], kp := [(0, [0, 1]), (1, [0, 1]), (2, [1, 5]), (3, [1, 5, 6]), (5, [1, 5, 6]), (6, []), (4, [1, 5, 6]), (7, [])], an := [] }
attribute [go_sem] H_impl_has
theorem ok_H_impl_has : H_impl_has.ok Try.prog := AllOk.okR (.cons ok_impl_partsOf .nil) .nil mix
theorem f_has (k : Int) (c : UInt8) : VFun Try.prog 74 [(eInt .i64).enc k, (CE.one cU8 cU8_n).enc c] [] (eBool.enc ((partsL k).contains c)) [] := by
  have hl := partsL_len k
  generalize hL : partsL k = l at hl
  refine VFun_pure (n := 20) (rs := [.tmp 4]) Try.func74 rfl rfl rfl rfl H_impl_has ok_H_impl_has _ _ (Nat.le_of_ble_eq_true rfl) (by kernel_rfl) ?_
  simp only [go_sem, ↓reduceIte, reduceCtorEq, Nat.reduceAdd, Nat.reduceMul, Nat.reduceEqDiff, Nat.reduceSub, Nat.reduceLT, Nat.reduceLeDiff, Nat.reduceAnd, Nat.reduceShiftRight, Nat.reduceBEq, Nat.reduceBNe, Nat.reduceBneDiff, Nat.reduceBeqDiff, Int.reduceToNat, Int.reduceLE, Int.reduceLT, Int.reduceEq, hL]
  refine LoopV.go (H := H_impl_has) ok_H_impl_has (by kernel_rfl) (fun i : Nat => ⟨[(1, sc (.int .u8 c.toNat)), (5, sc (.string ⟨l.toArray⟩)), (6, sc (.int .i64 i))], [], 2⟩) (fun i => l.length - i) (fun i => i ≤ l.length ∧ (l.drop i).contains c = l.contains c) ?_ 0 ⟨Nat.zero_le _, rfl⟩
  rintro i ⟨hi, hq⟩
  have w1 : IntKind.i64.wrap ((i : Int) + 1) = ((i + 1 : Nat) : Int) := by rw [wrap64] <;> omega
  have e0 : (⟨l.toArray⟩ : ByteArray).size = l.length := rfl
  by_cases hlt : i < l.length
  · have c1 : ((i : Int) < (l.length : Int)) = True := eq_true (by omega)
    obtain ⟨x, hx⟩ : ∃ r, l[i]? = some r := ⟨_, List.getElem?_eq_getElem hlt⟩
    rw [con_step hx] at hq
    have hu : ((x.toNat : Int) = (c.toNat : Int)) = (x = c) := by
      apply propext
      constructor
      · intro h; exact UInt8.toNat_inj.1 (by omega)
      · rintro rfl; rfl
    simp only [go_sem, ↓reduceIte, reduceCtorEq, Nat.reduceAdd, Nat.reduceMul, Nat.reduceEqDiff, Nat.reduceSub, Nat.reduceLT, Nat.reduceLeDiff, Nat.reduceAnd, Nat.reduceShiftRight, Nat.reduceBEq, Nat.reduceBNe, Nat.reduceBneDiff, Nat.reduceBeqDiff, Int.reduceToNat, Int.reduceLE, Int.reduceLT, Int.reduceEq, e0, c1, hx, w1, hu]
    by_cases hc : x = c
    · rw [decide_eq_true hc, Bool.true_or] at hq
      simp only [go_sem, ↓reduceIte, reduceCtorEq, Nat.reduceAdd, Nat.reduceMul, Nat.reduceEqDiff, Nat.reduceSub, Nat.reduceLT, Nat.reduceLeDiff, Nat.reduceAnd, Nat.reduceShiftRight, Nat.reduceBEq, Nat.reduceBNe, Nat.reduceBneDiff, Nat.reduceBeqDiff, Int.reduceToNat, Int.reduceLE, Int.reduceLT, Int.reduceEq, eq_true hc]
      rw [← hq]
    · rw [decide_eq_false hc, Bool.false_or] at hq
      simp only [go_sem, ↓reduceIte, reduceCtorEq, Nat.reduceAdd, Nat.reduceMul, Nat.reduceEqDiff, Nat.reduceSub, Nat.reduceLT, Nat.reduceLeDiff, Nat.reduceAnd, Nat.reduceShiftRight, Nat.reduceBEq, Nat.reduceBNe, Nat.reduceBneDiff, Nat.reduceBeqDiff, Int.reduceToNat, Int.reduceLE, Int.reduceLT, Int.reduceEq, eq_false hc]
      exact ⟨i + 1, ⟨hlt, hq⟩, by omega, rfl⟩
  · have c1 : ((i : Int) < (l.length : Int)) = False := eq_false (by omega)
    simp only [go_sem, ↓reduceIte, reduceCtorEq, Nat.reduceAdd, Nat.reduceMul, Nat.reduceEqDiff, Nat.reduceSub, Nat.reduceLT, Nat.reduceLeDiff, Nat.reduceAnd, Nat.reduceShiftRight, Nat.reduceBEq, Nat.reduceBNe, Nat.reduceBneDiff, Nat.reduceBeqDiff, Int.reduceToNat, Int.reduceLE, Int.reduceLT, Int.reduceEq, e0, c1]
    rw [← hq, List.drop_eq_nil_of_le (by omega)]; rfl
abbrev MHas : FM := .f2 (eInt .i64) (CE.one cU8 cU8_n) eBool.enc (fun k c => (partsL k).contains c) (fun _ _ => True)
attribute [go_sem] MHas
theorem ok_impl_has : MHas.ok Try.prog 74 := FM.f2_ok fun k c _ => f_has k c

def H_spec_l5In : Hint := { fs := [], kp := [(0, [0, 1]), (1, [0, 1]), (2, [0, 1, 5]), (4, [0, 1, 5]), (5, []), (3, [0, 1, 5]), (6, [])], an := [] }
attribute [go_sem] H_spec_l5In
theorem ok_H_spec_l5In : H_spec_l5In.ok Try.prog := AllOk.okR .nil .nil mix
theorem f_l5In (s : ByteArray) (c : UInt8) (h : s.size ≤ 1000000) : VFun Try.prog 61 [eStr.enc s, (CE.one cU8 cU8_n).enc c] [] (eBool.enc (s.data.toList.contains c)) [] := by
  obtain ⟨l, rfl⟩ : ∃ l : List UInt8, s = ⟨l.toArray⟩ := ⟨s.data.toList, by simp⟩
  have e0 : (⟨l.toArray⟩ : ByteArray).size = l.length := rfl
  rw [e0] at h
  refine VFun_pure (n := 17) (rs := [.tmp 4]) Try.func61 rfl rfl rfl rfl H_spec_l5In ok_H_spec_l5In _ _ (Nat.le_of_ble_eq_true rfl) (by kernel_rfl) ?_
  simp only [go_sem, ↓reduceIte, reduceCtorEq, Nat.reduceAdd, Nat.reduceMul, Nat.reduceEqDiff, Nat.reduceSub, Nat.reduceLT, Nat.reduceLeDiff, Nat.reduceAnd, Nat.reduceShiftRight, Nat.reduceBEq, Nat.reduceBNe, Nat.reduceBneDiff, Nat.reduceBeqDiff, Int.reduceToNat, Int.reduceLE, Int.reduceLT, Int.reduceEq]
  refine LoopV.go (H := H_spec_l5In) ok_H_spec_l5In (by kernel_rfl) (fun i : Nat => ⟨[(0, sc (.string ⟨l.toArray⟩)), (1, sc (.int .u8 c.toNat)), (5, sc (.int .i64 i))], [], 2⟩) (fun i => l.length - i) (fun i => i ≤ l.length ∧ (l.drop i).contains c = l.contains c) ?_ 0 ⟨Nat.zero_le _, rfl⟩
  rintro i ⟨hi, hq⟩
  have w1 : IntKind.i64.wrap ((i : Int) + 1) = ((i + 1 : Nat) : Int) := by rw [wrap64] <;> omega
  by_cases hlt : i < l.length
  · have c1 : ((i : Int) < (l.length : Int)) = True := eq_true (by omega)
    obtain ⟨x, hx⟩ : ∃ r, l[i]? = some r := ⟨_, List.getElem?_eq_getElem hlt⟩
    rw [con_step hx] at hq
    have hu : ((x.toNat : Int) = (c.toNat : Int)) = (x = c) := by
      apply propext
      constructor
      · intro h; exact UInt8.toNat_inj.1 (by omega)
      · rintro rfl; rfl
    simp only [go_sem, ↓reduceIte, reduceCtorEq, Nat.reduceAdd, Nat.reduceMul, Nat.reduceEqDiff, Nat.reduceSub, Nat.reduceLT, Nat.reduceLeDiff, Nat.reduceAnd, Nat.reduceShiftRight, Nat.reduceBEq, Nat.reduceBNe, Nat.reduceBneDiff, Nat.reduceBeqDiff, Int.reduceToNat, Int.reduceLE, Int.reduceLT, Int.reduceEq, e0, c1, hx, w1, hu]
    by_cases hc : x = c
    · rw [decide_eq_true hc, Bool.true_or] at hq
      simp only [go_sem, ↓reduceIte, reduceCtorEq, Nat.reduceAdd, Nat.reduceMul, Nat.reduceEqDiff, Nat.reduceSub, Nat.reduceLT, Nat.reduceLeDiff, Nat.reduceAnd, Nat.reduceShiftRight, Nat.reduceBEq, Nat.reduceBNe, Nat.reduceBneDiff, Nat.reduceBeqDiff, Int.reduceToNat, Int.reduceLE, Int.reduceLT, Int.reduceEq, eq_true hc]
      rw [← hq]
    · rw [decide_eq_false hc, Bool.false_or] at hq
      simp only [go_sem, ↓reduceIte, reduceCtorEq, Nat.reduceAdd, Nat.reduceMul, Nat.reduceEqDiff, Nat.reduceSub, Nat.reduceLT, Nat.reduceLeDiff, Nat.reduceAnd, Nat.reduceShiftRight, Nat.reduceBEq, Nat.reduceBNe, Nat.reduceBneDiff, Nat.reduceBeqDiff, Int.reduceToNat, Int.reduceLE, Int.reduceLT, Int.reduceEq, eq_false hc]
      exact ⟨i + 1, ⟨hlt, hq⟩, by omega, rfl⟩
  · have c1 : ((i : Int) < (l.length : Int)) = False := eq_false (by omega)
    simp only [go_sem, ↓reduceIte, reduceCtorEq, Nat.reduceAdd, Nat.reduceMul, Nat.reduceEqDiff, Nat.reduceSub, Nat.reduceLT, Nat.reduceLeDiff, Nat.reduceAnd, Nat.reduceShiftRight, Nat.reduceBEq, Nat.reduceBNe, Nat.reduceBneDiff, Nat.reduceBeqDiff, Int.reduceToNat, Int.reduceLE, Int.reduceLT, Int.reduceEq, e0, c1]
    rw [← hq, List.drop_eq_nil_of_le (by omega)]; rfl
abbrev MIn5 : FM := .f2 eStr (CE.one cU8 cU8_n) eBool.enc (fun s c => s.data.toList.contains c) (fun s _ => s.size ≤ 1000000)
attribute [go_sem] MIn5
theorem ok_spec_l5In : MIn5.ok Try.prog 61 := FM.f2_ok fun s c h => f_l5In s c h

def partOkM (b : Bool) (n lo hi : Int) : Bool := if b then decide (lo ≤ n ∧ n ≤ hi) else decide (n = 0)
def H_impl_partOk : Hint := { fs := [(72, M166)], kp := [(0, [0, 1, 2, 3]), (1, [0, 1, 2, 3]), (2, [1]), (3, [1, 2, 3])], an := [] }
attribute [go_sem] H_impl_partOk
theorem ok_H_impl_partOk : H_impl_partOk.ok Try.prog := AllOk.okR (.cons m180 .nil) .nil mix
theorem f_partOk (b : Bool) (n lo hi : Int) : VFun Try.prog 73 [eBool.enc b, (eInt .i64).enc n, (eInt .i64).enc lo, (eInt .i64).enc hi] [] (eBool.enc (partOkM b n lo hi)) [] := by
  refine VFun_pure (n := 17) (rs := [.tmp 8]) Try.func73 rfl rfl rfl rfl H_impl_partOk ok_H_impl_partOk _ _ (Nat.le_of_ble_eq_true rfl) (by kernel_rfl) ?_
  cases b
  · simp only [go_sem, ↓reduceIte, reduceCtorEq, Nat.reduceAdd, Nat.reduceMul, Nat.reduceEqDiff, Nat.reduceSub, Nat.reduceLT, Nat.reduceLeDiff, Nat.reduceAnd, Nat.reduceShiftRight, Nat.reduceBEq, Nat.reduceBNe, Nat.reduceBneDiff, Nat.reduceBeqDiff, Int.reduceToNat, Int.reduceLE, Int.reduceLT, Int.reduceEq]; rfl
  · simp only [go_sem, ↓reduceIte, reduceCtorEq, Nat.reduceAdd, Nat.reduceMul, Nat.reduceEqDiff, Nat.reduceSub, Nat.reduceLT, Nat.reduceLeDiff, Nat.reduceAnd, Nat.reduceShiftRight, Nat.reduceBEq, Nat.reduceBNe, Nat.reduceBneDiff, Nat.reduceBeqDiff, Int.reduceToNat, Int.reduceLE, Int.reduceLT, Int.reduceEq]; rfl
abbrev MPartOk : FM := .f4 eBool (eInt .i64) (eInt .i64) (eInt .i64) eBool.enc partOkM (fun _ _ _ _ => True)
attribute [go_sem] MPartOk
theorem ok_impl_partOk : MPartOk.ok Try.prog 73 := FM.f4_ok fun b n lo hi _ => f_partOk b n lo hi

/-- Whether a message is ok. -/
def wireOkM (m : Msg) : Bool :=
  (m.2.2.2.2.2.2.2.all fun x => decide ((x.size : Int) ≤ 40)) && (decide (1 ≤ m.1 ∧ m.1 ≤ 8) && (partOkM ((partsL m.1).contains 115) m.2.1 1 1000000 && (partOkM ((partsL m.1).contains 102) m.2.2.1 0 256 &&
  (partOkM ((partsL m.1).contains 122) m.2.2.2.1 0 256 && (((partsL m.1).contains 114 || decide (m.2.2.2.2.1 = (0, 0, 0, 0))) && (partOkM ((partsL m.1).contains 99) m.2.2.2.2.2.1 1 8 &&
  (partOkM ((partsL m.1).contains 112) m.2.2.2.2.2.2.1.length 0 16 && partOkM ((partsL m.1).contains 108) m.2.2.2.2.2.2.2.length 0 8)))))))
theorem dig0_eq (x : Digest) : (decide ((x.1.toNat : Int) = 0) && (decide ((x.2.1.toNat : Int) = 0) && (decide ((x.2.2.1.toNat : Int) = 0) && decide ((x.2.2.2.toNat : Int) = 0)))) = decide (x = (0, 0, 0, 0)) := by
  obtain ⟨a, b, c, d⟩ := x
  have e : ∀ x : UInt64, ((x.toNat : Int) = 0) = (x = 0) := fun x => propext ⟨fun h => UInt64.toNat_inj.1 (Int.ofNat.inj h), fun h => by rw [h]; rfl⟩
  simp only [e, Prod.mk.injEq, Bool.decide_and]
abbrev MWireOk : FM := .f1 (CE.st cMsg) eBool.enc wireOkM (fun m => m.2.2.2.2.2.2.1.length ≤ 1048576 ∧ m.2.2.2.2.2.2.2.length ≤ 1048576)
attribute [go_sem] MWireOk

def H_impl_WireOk : Hint := { fs := [(72, M166), (73, MPartOk), (74, MHas)], kp := [(0, [0]), (1, [1]), (2, [1, 3]), (3, [1, 3, 9, 10, 11]), (4, [1, 3, 9, 10, 11]), (5, [1, 3, 5, 9, 10, 11]), (6, []), (7, [1, 3, 9, 10, 11]), (8, [1, 3])], an := [(8, [0, 1, 3, 7, 15, 7, 39, 127, 255, 511, 1023, 2047, 1023, 5119, 16383, 32767, 65535, 131071, 262143, 131071, 655359, 2097151, 4194303, 8388607, 16777215, 33554431, 67108863, 134217727, 268435455, 134217727, 1073741823, 2147483647, 4294967295, 8589934591, 17179869183, 34359738367, 17179869183, 85899345919, 274877906943, 549755813887, 1099511627775, 2199023255551, 4398046511103, 2199023255551, 10995116277759, 28587302322175, 70368744177663, 140737488355327, 281474976710655, 562949953421311, 1125899906842623, 562949953421311, 2814749767106559, 7318349394477055, 18014398509481983, 36028797018963967, 72057594037927935])] }
attribute [go_sem] H_impl_WireOk
theorem ok_H_impl_WireOk : H_impl_WireOk.ok Try.prog := AllOk.okR (.cons m180 (.cons ok_impl_partOk (.cons ok_impl_has .nil))) .nil mix
theorem f_impl_WireOk (m : Msg) (h : m.2.2.2.2.2.2.1.length ≤ 1048576 ∧ m.2.2.2.2.2.2.2.length ≤ 1048576) : VFun Try.prog 35 [(CE.st cMsg).enc m] [] (eBool.enc (wireOkM m)) [] := by
  obtain ⟨k, se, fr, si, ro, co, pf, lv⟩ := m
  obtain ⟨h1, h2⟩ := h
  dsimp only at h1 h2
  have hw : wireOkM (k, se, fr, si, ro, co, pf, lv) = ((lv.all fun x => decide ((x.size : Int) ≤ 40)) && (decide (1 ≤ k ∧ k ≤ 8) && (partOkM ((partsL k).contains 115) se 1 1000000 && (partOkM ((partsL k).contains 102) fr 0 256 &&
    (partOkM ((partsL k).contains 122) si 0 256 && (((partsL k).contains 114 || decide (ro = (0, 0, 0, 0))) && (partOkM ((partsL k).contains 99) co 1 8 &&
    (partOkM ((partsL k).contains 112) pf.length 0 16 && partOkM ((partsL k).contains 108) lv.length 0 8)))))))) := rfl
  obtain ⟨b1, hb1⟩ : ∃ b, b = decide (1 ≤ k ∧ k ≤ 8) := ⟨_, rfl⟩
  rw [← hb1] at hw
  refine VFun_pure (n := 75) (rs := [.tmp 2]) Try.func35 rfl rfl rfl rfl H_impl_WireOk ok_H_impl_WireOk _ _ (Nat.le_of_ble_eq_true rfl) (by kernel_rfl) ?_
  simp only [go_sem, ↓reduceIte, reduceCtorEq, Nat.reduceAdd, Nat.reduceMul, Nat.reduceEqDiff, Nat.reduceSub, Nat.reduceLT, Nat.reduceLeDiff, Nat.reduceAnd, Nat.reduceShiftRight, Nat.reduceBEq, Nat.reduceBNe, Nat.reduceBneDiff, Nat.reduceBeqDiff, Int.reduceToNat, Int.reduceLE, Int.reduceLT, Int.reduceEq]
  refine LoopV.go (H := H_impl_WireOk) ok_H_impl_WireOk (by kernel_rfl) (fun i : Nat => ⟨[(1, .x (.o (.p (1, 100) 0 0 1))), (3, sc (.int .i64 k)), (9, .x (.o (.c (.s (lv.map cStr.enc))))), (10, sc (.int .i64 lv.length)), (11, sc (.int .i64 i))], [((1, 100), .bx [cellsA (asX ((CE.st cMsg).enc (k, se, fr, si, ro, co, pf, lv)))])], 2⟩) (fun i => lv.length - i) (fun i => i ≤ lv.length ∧ ∀ j x, j < i → lv[j]? = some x → (x.size : Int) ≤ 40) ?_ 0 ⟨Nat.zero_le _, fun j x h => by omega⟩
  rintro i ⟨hi, hall⟩
  have w1 : IntKind.i64.wrap ((i : Int) + 1) = ((i + 1 : Nat) : Int) := by rw [wrap64] <;> omega
  by_cases hlt : i < lv.length
  · have c1 : ((i : Int) < (lv.length : Int)) = True := eq_true (by omega)
    obtain ⟨x, hx⟩ : ∃ r, lv[i]? = some r := ⟨_, List.getElem?_eq_getElem hlt⟩
    by_cases h40 : (x.size : Int) ≤ 40
    · have c2 : ((x.size : Int) > 40) = False := eq_false (by omega)
      have c2' : (40 < (x.size : Int)) = False := eq_false (by omega)
      simp only [go_sem, ↓reduceIte, reduceCtorEq, Nat.reduceAdd, Nat.reduceMul, Nat.reduceEqDiff, Nat.reduceSub, Nat.reduceLT, Nat.reduceLeDiff, Nat.reduceAnd, Nat.reduceShiftRight, Nat.reduceBEq, Nat.reduceBNe, Nat.reduceBneDiff, Nat.reduceBeqDiff, Int.reduceToNat, Int.reduceLE, Int.reduceLT, Int.reduceEq, c1, hx, w1, c2, c2']
      refine ⟨i + 1, ⟨hlt, fun j y hj hy => ?_⟩, by omega, rfl⟩
      rcases Nat.lt_or_ge j i with h4 | h4
      · exact hall j y h4 hy
      · rw [show j = i by omega, hx] at hy
        cases hy; exact h40
    · have c2 : ((x.size : Int) > 40) = True := eq_true (by omega)
      have c2' : (40 < (x.size : Int)) = True := eq_true (by omega)
      have hb : (lv.all fun x => decide ((x.size : Int) ≤ 40)) = false := by
        rw [List.all_eq_false]
        exact ⟨x, List.mem_of_getElem? hx, by simp; omega⟩
      rw [hw, hb, Bool.false_and]
      simp only [go_sem, ↓reduceIte, reduceCtorEq, Nat.reduceAdd, Nat.reduceMul, Nat.reduceEqDiff, Nat.reduceSub, Nat.reduceLT, Nat.reduceLeDiff, Nat.reduceAnd, Nat.reduceShiftRight, Nat.reduceBEq, Nat.reduceBNe, Nat.reduceBneDiff, Nat.reduceBeqDiff, Int.reduceToNat, Int.reduceLE, Int.reduceLT, Int.reduceEq, c1, hx, w1, c2, c2']
  · have c1 : ((i : Int) < (lv.length : Int)) = False := eq_false (by omega)
    have hb : (lv.all fun x => decide ((x.size : Int) ≤ 40)) = true := by
      rw [List.all_eq_true]
      intro x hx
      obtain ⟨j, hj⟩ := List.getElem?_of_mem hx
      have := (List.getElem?_eq_some_iff.1 hj).1
      exact decide_eq_true (hall j x (by omega) hj)
    rw [hw, hb, Bool.true_and]
    clear hw hb
    obtain ⟨b2, hb2⟩ : ∃ b, b = partOkM ((partsL k).contains 115) se 1 1000000 := ⟨_, rfl⟩
    obtain ⟨b3, hb3⟩ : ∃ b, b = partOkM ((partsL k).contains 102) fr 0 256 := ⟨_, rfl⟩
    obtain ⟨b4, hb4⟩ : ∃ b, b = partOkM ((partsL k).contains 122) si 0 256 := ⟨_, rfl⟩
    obtain ⟨b5, hb5⟩ : ∃ b, b = (partsL k).contains 114 := ⟨_, rfl⟩
    obtain ⟨b6, hb6⟩ : ∃ b, b = decide (ro = (0, 0, 0, 0)) := ⟨_, rfl⟩
    obtain ⟨b7, hb7⟩ : ∃ b, b = partOkM ((partsL k).contains 99) co 1 8 := ⟨_, rfl⟩
    obtain ⟨b8, hb8⟩ : ∃ b, b = partOkM ((partsL k).contains 112) pf.length 0 16 := ⟨_, rfl⟩
    obtain ⟨b9, hb9⟩ : ∃ b, b = partOkM ((partsL k).contains 108) lv.length 0 8 := ⟨_, rfl⟩
    rw [← hb2, ← hb3, ← hb4, ← hb5, ← hb6, ← hb7, ← hb8, ← hb9]
    cases b1
    · simp only [go_sem, ↓reduceIte, reduceCtorEq, Nat.reduceAdd, Nat.reduceMul, Nat.reduceEqDiff, Nat.reduceSub, Nat.reduceLT, Nat.reduceLeDiff, Nat.reduceAnd, Nat.reduceShiftRight, Nat.reduceBEq, Nat.reduceBNe, Nat.reduceBneDiff, Nat.reduceBeqDiff, Int.reduceToNat, Int.reduceLE, Int.reduceLT, Int.reduceEq, c1, dig0_eq, hb1.symm]
    cases b2
    · simp only [go_sem, ↓reduceIte, reduceCtorEq, Nat.reduceAdd, Nat.reduceMul, Nat.reduceEqDiff, Nat.reduceSub, Nat.reduceLT, Nat.reduceLeDiff, Nat.reduceAnd, Nat.reduceShiftRight, Nat.reduceBEq, Nat.reduceBNe, Nat.reduceBneDiff, Nat.reduceBeqDiff, Int.reduceToNat, Int.reduceLE, Int.reduceLT, Int.reduceEq, c1, dig0_eq, hb1.symm, hb2.symm]
    cases b3
    · simp only [go_sem, ↓reduceIte, reduceCtorEq, Nat.reduceAdd, Nat.reduceMul, Nat.reduceEqDiff, Nat.reduceSub, Nat.reduceLT, Nat.reduceLeDiff, Nat.reduceAnd, Nat.reduceShiftRight, Nat.reduceBEq, Nat.reduceBNe, Nat.reduceBneDiff, Nat.reduceBeqDiff, Int.reduceToNat, Int.reduceLE, Int.reduceLT, Int.reduceEq, c1, dig0_eq, hb1.symm, hb2.symm, hb3.symm]
    cases b4
    · simp only [go_sem, ↓reduceIte, reduceCtorEq, Nat.reduceAdd, Nat.reduceMul, Nat.reduceEqDiff, Nat.reduceSub, Nat.reduceLT, Nat.reduceLeDiff, Nat.reduceAnd, Nat.reduceShiftRight, Nat.reduceBEq, Nat.reduceBNe, Nat.reduceBneDiff, Nat.reduceBeqDiff, Int.reduceToNat, Int.reduceLE, Int.reduceLT, Int.reduceEq, c1, dig0_eq, hb1.symm, hb2.symm, hb3.symm, hb4.symm]
    cases b5
    · cases b6
      · simp only [go_sem, ↓reduceIte, reduceCtorEq, Nat.reduceAdd, Nat.reduceMul, Nat.reduceEqDiff, Nat.reduceSub, Nat.reduceLT, Nat.reduceLeDiff, Nat.reduceAnd, Nat.reduceShiftRight, Nat.reduceBEq, Nat.reduceBNe, Nat.reduceBneDiff, Nat.reduceBeqDiff, Int.reduceToNat, Int.reduceLE, Int.reduceLT, Int.reduceEq, c1, dig0_eq, hb1.symm, hb2.symm, hb3.symm, hb4.symm, hb5.symm, hb6.symm]
      · cases b7
        · simp only [go_sem, ↓reduceIte, reduceCtorEq, Nat.reduceAdd, Nat.reduceMul, Nat.reduceEqDiff, Nat.reduceSub, Nat.reduceLT, Nat.reduceLeDiff, Nat.reduceAnd, Nat.reduceShiftRight, Nat.reduceBEq, Nat.reduceBNe, Nat.reduceBneDiff, Nat.reduceBeqDiff, Int.reduceToNat, Int.reduceLE, Int.reduceLT, Int.reduceEq, c1, dig0_eq, hb1.symm, hb2.symm, hb3.symm, hb4.symm, hb5.symm, hb6.symm, hb7.symm]
        cases b8
        · simp only [go_sem, ↓reduceIte, reduceCtorEq, Nat.reduceAdd, Nat.reduceMul, Nat.reduceEqDiff, Nat.reduceSub, Nat.reduceLT, Nat.reduceLeDiff, Nat.reduceAnd, Nat.reduceShiftRight, Nat.reduceBEq, Nat.reduceBNe, Nat.reduceBneDiff, Nat.reduceBeqDiff, Int.reduceToNat, Int.reduceLE, Int.reduceLT, Int.reduceEq, c1, dig0_eq, hb1.symm, hb2.symm, hb3.symm, hb4.symm, hb5.symm, hb6.symm, hb7.symm, hb8.symm]
        cases b9
        · simp only [go_sem, ↓reduceIte, reduceCtorEq, Nat.reduceAdd, Nat.reduceMul, Nat.reduceEqDiff, Nat.reduceSub, Nat.reduceLT, Nat.reduceLeDiff, Nat.reduceAnd, Nat.reduceShiftRight, Nat.reduceBEq, Nat.reduceBNe, Nat.reduceBneDiff, Nat.reduceBeqDiff, Int.reduceToNat, Int.reduceLE, Int.reduceLT, Int.reduceEq, c1, dig0_eq, hb1.symm, hb2.symm, hb3.symm, hb4.symm, hb5.symm, hb6.symm, hb7.symm, hb8.symm, hb9.symm]
        simp only [go_sem, ↓reduceIte, reduceCtorEq, Nat.reduceAdd, Nat.reduceMul, Nat.reduceEqDiff, Nat.reduceSub, Nat.reduceLT, Nat.reduceLeDiff, Nat.reduceAnd, Nat.reduceShiftRight, Nat.reduceBEq, Nat.reduceBNe, Nat.reduceBneDiff, Nat.reduceBeqDiff, Int.reduceToNat, Int.reduceLE, Int.reduceLT, Int.reduceEq, c1, dig0_eq, hb1.symm, hb2.symm, hb3.symm, hb4.symm, hb5.symm, hb6.symm, hb7.symm, hb8.symm, hb9.symm]
    · cases b7
      · simp only [go_sem, ↓reduceIte, reduceCtorEq, Nat.reduceAdd, Nat.reduceMul, Nat.reduceEqDiff, Nat.reduceSub, Nat.reduceLT, Nat.reduceLeDiff, Nat.reduceAnd, Nat.reduceShiftRight, Nat.reduceBEq, Nat.reduceBNe, Nat.reduceBneDiff, Nat.reduceBeqDiff, Int.reduceToNat, Int.reduceLE, Int.reduceLT, Int.reduceEq, c1, dig0_eq, hb1.symm, hb2.symm, hb3.symm, hb4.symm, hb5.symm, hb7.symm]
      cases b8
      · simp only [go_sem, ↓reduceIte, reduceCtorEq, Nat.reduceAdd, Nat.reduceMul, Nat.reduceEqDiff, Nat.reduceSub, Nat.reduceLT, Nat.reduceLeDiff, Nat.reduceAnd, Nat.reduceShiftRight, Nat.reduceBEq, Nat.reduceBNe, Nat.reduceBneDiff, Nat.reduceBeqDiff, Int.reduceToNat, Int.reduceLE, Int.reduceLT, Int.reduceEq, c1, dig0_eq, hb1.symm, hb2.symm, hb3.symm, hb4.symm, hb5.symm, hb7.symm, hb8.symm]
      cases b9
      · simp only [go_sem, ↓reduceIte, reduceCtorEq, Nat.reduceAdd, Nat.reduceMul, Nat.reduceEqDiff, Nat.reduceSub, Nat.reduceLT, Nat.reduceLeDiff, Nat.reduceAnd, Nat.reduceShiftRight, Nat.reduceBEq, Nat.reduceBNe, Nat.reduceBneDiff, Nat.reduceBeqDiff, Int.reduceToNat, Int.reduceLE, Int.reduceLT, Int.reduceEq, c1, dig0_eq, hb1.symm, hb2.symm, hb3.symm, hb4.symm, hb5.symm, hb7.symm, hb8.symm, hb9.symm]
      simp only [go_sem, ↓reduceIte, reduceCtorEq, Nat.reduceAdd, Nat.reduceMul, Nat.reduceEqDiff, Nat.reduceSub, Nat.reduceLT, Nat.reduceLeDiff, Nat.reduceAnd, Nat.reduceShiftRight, Nat.reduceBEq, Nat.reduceBNe, Nat.reduceBneDiff, Nat.reduceBeqDiff, Int.reduceToNat, Int.reduceLE, Int.reduceLT, Int.reduceEq, c1, dig0_eq, hb1.symm, hb2.symm, hb3.symm, hb4.symm, hb5.symm, hb7.symm, hb8.symm, hb9.symm]
theorem ok_impl_WireOk : MWireOk.ok Try.prog 35 := FM.f1_ok fun m h => f_impl_WireOk m h

def H_spec_l5LeavesOk : Hint := { fs := [], kp := [(0, [0]), (1, [0]), (2, []), (3, [0]), (4, [0, 3]), (6, [0, 3]), (7, []), (5, [0, 3]), (8, [])], an := [] }
attribute [go_sem] H_spec_l5LeavesOk
theorem ok_H_spec_l5LeavesOk : H_spec_l5LeavesOk.ok Try.prog := AllOk.okR .nil .nil mix
theorem f_l5LeavesOk (l : List ByteArray) (h : l.length ≤ 1048576) : VFun Try.prog 63 [(eList cStr).enc l] [] (eBool.enc ((l.all fun x => decide ((x.size : Int) ≤ 40)) && decide ((l.length : Int) ≤ 8))) [] := by
  refine VFun_pure (n := 19) (rs := [.tmp 2]) Try.func63 rfl rfl rfl rfl H_spec_l5LeavesOk ok_H_spec_l5LeavesOk _ _ (Nat.le_of_ble_eq_true rfl) (by kernel_rfl) ?_
  by_cases h8 : (l.length : Int) ≤ 8
  case neg =>
    have c1 : ((8 : Int) < (l.length : Int)) = True := eq_true (by omega)
    simp only [go_sem, ↓reduceIte, reduceCtorEq, Nat.reduceAdd, Nat.reduceMul, Nat.reduceEqDiff, Nat.reduceSub, Nat.reduceLT, Nat.reduceLeDiff, Nat.reduceAnd, Nat.reduceShiftRight, Nat.reduceBEq, Nat.reduceBNe, Nat.reduceBneDiff, Nat.reduceBeqDiff, Int.reduceToNat, Int.reduceLE, Int.reduceLT, Int.reduceEq, c1, decide_eq_false h8]
  have c1 : ((8 : Int) < (l.length : Int)) = False := eq_false (by omega)
  simp only [go_sem, ↓reduceIte, reduceCtorEq, Nat.reduceAdd, Nat.reduceMul, Nat.reduceEqDiff, Nat.reduceSub, Nat.reduceLT, Nat.reduceLeDiff, Nat.reduceAnd, Nat.reduceShiftRight, Nat.reduceBEq, Nat.reduceBNe, Nat.reduceBneDiff, Nat.reduceBeqDiff, Int.reduceToNat, Int.reduceLE, Int.reduceLT, Int.reduceEq, c1, decide_eq_true h8]
  refine LoopV.go (H := H_spec_l5LeavesOk) ok_H_spec_l5LeavesOk (by kernel_rfl) (fun i : Nat => ⟨[(0, .x (.o (.c (.s (l.map cStr.enc))))), (3, sc (.int .i64 i))], [], 2⟩) (fun i => l.length - i) (fun i => i ≤ l.length ∧ ∀ j x, j < i → l[j]? = some x → (x.size : Int) ≤ 40) ?_ 0 ⟨Nat.zero_le _, fun j x h => by omega⟩
  rintro i ⟨hi, hall⟩
  have w1 : IntKind.i64.wrap ((i : Int) + 1) = ((i + 1 : Nat) : Int) := by rw [wrap64] <;> omega
  by_cases hlt : i < l.length
  · have c1 : ((i : Int) < (l.length : Int)) = True := eq_true (by omega)
    obtain ⟨x, hx⟩ : ∃ r, l[i]? = some r := ⟨_, List.getElem?_eq_getElem hlt⟩
    by_cases h40 : (x.size : Int) ≤ 40
    · have c2 : (40 < (x.size : Int)) = False := eq_false (by omega)
      simp only [go_sem, ↓reduceIte, reduceCtorEq, Nat.reduceAdd, Nat.reduceMul, Nat.reduceEqDiff, Nat.reduceSub, Nat.reduceLT, Nat.reduceLeDiff, Nat.reduceAnd, Nat.reduceShiftRight, Nat.reduceBEq, Nat.reduceBNe, Nat.reduceBneDiff, Nat.reduceBeqDiff, Int.reduceToNat, Int.reduceLE, Int.reduceLT, Int.reduceEq, c1, hx, w1, c2]
      refine ⟨i + 1, ⟨hlt, fun j y hj hy => ?_⟩, by omega, rfl⟩
      rcases Nat.lt_or_ge j i with h4 | h4
      · exact hall j y h4 hy
      · rw [show j = i by omega, hx] at hy
        cases hy; exact h40
    · have c2 : (40 < (x.size : Int)) = True := eq_true (by omega)
      have hb : (l.all fun x => decide ((x.size : Int) ≤ 40)) = false := by
        rw [List.all_eq_false]
        exact ⟨x, List.mem_of_getElem? hx, by simp; omega⟩
      simp only [go_sem, ↓reduceIte, reduceCtorEq, Nat.reduceAdd, Nat.reduceMul, Nat.reduceEqDiff, Nat.reduceSub, Nat.reduceLT, Nat.reduceLeDiff, Nat.reduceAnd, Nat.reduceShiftRight, Nat.reduceBEq, Nat.reduceBNe, Nat.reduceBneDiff, Nat.reduceBeqDiff, Int.reduceToNat, Int.reduceLE, Int.reduceLT, Int.reduceEq, c1, hx, w1, c2, hb]
  · have c1 : ((i : Int) < (l.length : Int)) = False := eq_false (by omega)
    have hb : (l.all fun x => decide ((x.size : Int) ≤ 40)) = true := by
      rw [List.all_eq_true]
      intro x hx
      obtain ⟨j, hj⟩ := List.getElem?_of_mem hx
      have := (List.getElem?_eq_some_iff.1 hj).1
      exact decide_eq_true (hall j x (by omega) hj)
    simp only [go_sem, ↓reduceIte, reduceCtorEq, Nat.reduceAdd, Nat.reduceMul, Nat.reduceEqDiff, Nat.reduceSub, Nat.reduceLT, Nat.reduceLeDiff, Nat.reduceAnd, Nat.reduceShiftRight, Nat.reduceBEq, Nat.reduceBNe, Nat.reduceBneDiff, Nat.reduceBeqDiff, Int.reduceToNat, Int.reduceLE, Int.reduceLT, Int.reduceEq, c1, hb]
abbrev MLeaves5 : FM := .f1 (eList cStr) eBool.enc (fun l => (l.all fun x => decide ((x.size : Int) ≤ 40)) && decide ((l.length : Int) ≤ 8)) (fun l => l.length ≤ 1048576)
attribute [go_sem] MLeaves5
theorem ok_spec_l5LeavesOk : MLeaves5.ok Try.prog 63 := FM.f1_ok fun l h => f_l5LeavesOk l h

def H_spec_WireOk : Hint := { fs := [(60, MHas5), (61, MIn5), (62, M166), (63, MLeaves5)], kp := [(0, [0]), (1, [1]), (2, [1, 3]), (3, []), (4, [1, 3]), (5, []), (6, [1, 3]), (7, []), (8, [1, 3]), (9, []), (10, [1, 3]), (11, []), (12, [1, 3]), (13, []), (14, [1, 3]), (15, []), (16, [1, 3])], an := [] }
attribute [go_sem] H_spec_WireOk
theorem ok_H_spec_WireOk : H_spec_WireOk.ok Try.prog := AllOk.okR (.cons ok_spec_l5Has (.cons ok_spec_l5In (.cons m166 (.cons ok_spec_l5LeavesOk .nil)))) .nil mix
theorem f_spec_WireOk (m : Msg) (h : m.2.2.2.2.2.2.1.length ≤ 1048576 ∧ m.2.2.2.2.2.2.2.length ≤ 1048576) : VFun Try.prog 27 [(CE.st cMsg).enc m] [] (eBool.enc (wireOkM m)) [] := by
  obtain ⟨k, se, fr, si, ro, co, pf, lv⟩ := m
  obtain ⟨h1, h2⟩ := h
  dsimp only at h1 h2
  have hw : wireOkM (k, se, fr, si, ro, co, pf, lv) = ((lv.all fun x => decide ((x.size : Int) ≤ 40)) && (decide (1 ≤ k ∧ k ≤ 8) && (partOkM ((partsL k).contains 115) se 1 1000000 && (partOkM ((partsL k).contains 102) fr 0 256 &&
    (partOkM ((partsL k).contains 122) si 0 256 && (((partsL k).contains 114 || decide (ro = (0, 0, 0, 0))) && (partOkM ((partsL k).contains 99) co 1 8 &&
    (partOkM ((partsL k).contains 112) pf.length 0 16 && partOkM ((partsL k).contains 108) lv.length 0 8)))))))) := rfl
  by_cases hk : 1 ≤ k ∧ k ≤ 8
  case neg =>
    rw [hw, decide_eq_false hk, Bool.false_and, Bool.and_false]
    refine VFun_pure (n := 127) (rs := [.tmp 2]) Try.func27 rfl rfl rfl rfl H_spec_WireOk ok_H_spec_WireOk _ _ (Nat.le_of_ble_eq_true rfl) (by kernel_rfl) ?_
    have e : (⟨(partsN k).toArray⟩ : ByteArray) = ⟨#[]⟩ := by rw [partsN_no hk]
    simp only [go_sem, ↓reduceIte, reduceCtorEq, Nat.reduceAdd, Nat.reduceMul, Nat.reduceEqDiff, Nat.reduceSub, Nat.reduceLT, Nat.reduceLeDiff, Nat.reduceAnd, Nat.reduceShiftRight, Nat.reduceBEq, Nat.reduceBNe, Nat.reduceBneDiff, Nat.reduceBeqDiff, Int.reduceToNat, Int.reduceLE, Int.reduceLT, Int.reduceEq, e]
  rw [hw, decide_eq_true hk, Bool.true_and]
  clear hw
  have hb0 : (lv.length : Int) = 0 → (lv.all fun x => decide ((x.size : Int) ≤ 40)) = true := fun h => by
    rw [List.eq_nil_of_length_eq_zero (show lv.length = 0 by omega)]; rfl
  have hpos : ((0 : Int) < (pf.length : Int)) = ¬ ((pf.length : Int) = 0) := propext (by omega)
  generalize hba : (lv.all fun x => decide ((x.size : Int) ≤ 40)) = ba at hb0
  have hpt : ∀ n lo hi, partOkM true n lo hi = decide (lo ≤ n ∧ n ≤ hi) := fun _ _ _ => rfl
  have hpf : ∀ n lo hi, partOkM false n lo hi = decide (n = 0) := fun _ _ _ => rfl
  have hl0 : ∀ n : Nat, ((n : Int) = 0) = (n = 0) := fun n => propext (by omega)
  refine VFun_pure (n := 127) (rs := [.tmp 2]) Try.func27 rfl rfl rfl rfl H_spec_WireOk ok_H_spec_WireOk _ _ (Nat.le_of_ble_eq_true rfl) (by kernel_rfl) ?_
  rcases kind_cases hk with rfl | rfl | rfl | rfl | rfl | rfl | rfl | rfl
  · have e0 : ((⟨(partsN 1).toArray⟩ : ByteArray) = ⟨#[]⟩) = False := eq_false (by decide)
    have l0 : (partsN 1).length ≤ 1000000 := by decide
    have n0 : (partsN 1).contains 115 = true := by decide
    have q0 : (partsL 1).contains 115 = true := by decide
    have n1 : (partsN 1).contains 102 = false := by decide
    have q1 : (partsL 1).contains 102 = false := by decide
    have n2 : (partsN 1).contains 110 = false := by decide
    have q2 : (partsL 1).contains 122 = false := by decide
    have n3 : (partsN 1).contains 114 = false := by decide
    have q3 : (partsL 1).contains 114 = false := by decide
    have n4 : (partsN 1).contains 99 = false := by decide
    have q4 : (partsL 1).contains 99 = false := by decide
    have n5 : (partsN 1).contains 112 = false := by decide
    have q5 : (partsL 1).contains 112 = false := by decide
    have n6 : (partsN 1).contains 108 = false := by decide
    have q6 : (partsL 1).contains 108 = false := by decide
    simp only [go_sem, ↓reduceIte, reduceCtorEq, Nat.reduceAdd, Nat.reduceMul, Nat.reduceEqDiff, Nat.reduceSub, Nat.reduceLT, Nat.reduceLeDiff, Nat.reduceAnd, Nat.reduceShiftRight, Nat.reduceBEq, Nat.reduceBNe, Nat.reduceBneDiff, Nat.reduceBeqDiff, Int.reduceToNat, Int.reduceLE, Int.reduceLT, Int.reduceEq, dig0_eq, hba, hpos, e0, eq_true l0, hpt, hpf, n0, q0, n1, q1, n2, q2, n3, q3, n4, q4, n5, q5, n6, q6]
    clear e0 l0 hpt hpf hba n0 q0 n1 q1 n2 q2 n3 q3 n4 q4 n5 q5 n6 q6 h1 hk hl0 hpos
    generalize (pf.length : Int) = V at *
    (repeat' refine ite_intro (fun _ => ?_) fun _ => ?_) <;> first | (simp_all; done) | (simp_all; omega)
  · have e0 : ((⟨(partsN 2).toArray⟩ : ByteArray) = ⟨#[]⟩) = False := eq_false (by decide)
    have l0 : (partsN 2).length ≤ 1000000 := by decide
    have n0 : (partsN 2).contains 115 = true := by decide
    have q0 : (partsL 2).contains 115 = true := by decide
    have n1 : (partsN 2).contains 102 = false := by decide
    have q1 : (partsL 2).contains 102 = false := by decide
    have n2 : (partsN 2).contains 110 = true := by decide
    have q2 : (partsL 2).contains 122 = true := by decide
    have n3 : (partsN 2).contains 114 = true := by decide
    have q3 : (partsL 2).contains 114 = true := by decide
    have n4 : (partsN 2).contains 99 = false := by decide
    have q4 : (partsL 2).contains 99 = false := by decide
    have n5 : (partsN 2).contains 112 = false := by decide
    have q5 : (partsL 2).contains 112 = false := by decide
    have n6 : (partsN 2).contains 108 = false := by decide
    have q6 : (partsL 2).contains 108 = false := by decide
    simp only [go_sem, ↓reduceIte, reduceCtorEq, Nat.reduceAdd, Nat.reduceMul, Nat.reduceEqDiff, Nat.reduceSub, Nat.reduceLT, Nat.reduceLeDiff, Nat.reduceAnd, Nat.reduceShiftRight, Nat.reduceBEq, Nat.reduceBNe, Nat.reduceBneDiff, Nat.reduceBeqDiff, Int.reduceToNat, Int.reduceLE, Int.reduceLT, Int.reduceEq, dig0_eq, hba, hpos, e0, eq_true l0, hpt, hpf, n0, q0, n1, q1, n2, q2, n3, q3, n4, q4, n5, q5, n6, q6]
    clear e0 l0 hpt hpf hba n0 q0 n1 q1 n2 q2 n3 q3 n4 q4 n5 q5 n6 q6 h1 hk hl0 hpos
    generalize (pf.length : Int) = V at *
    (repeat' refine ite_intro (fun _ => ?_) fun _ => ?_) <;> first | (simp_all; done) | (simp_all; omega)
  · have e0 : ((⟨(partsN 3).toArray⟩ : ByteArray) = ⟨#[]⟩) = False := eq_false (by decide)
    have l0 : (partsN 3).length ≤ 1000000 := by decide
    have n0 : (partsN 3).contains 115 = true := by decide
    have q0 : (partsL 3).contains 115 = true := by decide
    have n1 : (partsN 3).contains 102 = false := by decide
    have q1 : (partsL 3).contains 102 = false := by decide
    have n2 : (partsN 3).contains 110 = true := by decide
    have q2 : (partsL 3).contains 122 = true := by decide
    have n3 : (partsN 3).contains 114 = true := by decide
    have q3 : (partsL 3).contains 114 = true := by decide
    have n4 : (partsN 3).contains 99 = false := by decide
    have q4 : (partsL 3).contains 99 = false := by decide
    have n5 : (partsN 3).contains 112 = false := by decide
    have q5 : (partsL 3).contains 112 = false := by decide
    have n6 : (partsN 3).contains 108 = false := by decide
    have q6 : (partsL 3).contains 108 = false := by decide
    simp only [go_sem, ↓reduceIte, reduceCtorEq, Nat.reduceAdd, Nat.reduceMul, Nat.reduceEqDiff, Nat.reduceSub, Nat.reduceLT, Nat.reduceLeDiff, Nat.reduceAnd, Nat.reduceShiftRight, Nat.reduceBEq, Nat.reduceBNe, Nat.reduceBneDiff, Nat.reduceBeqDiff, Int.reduceToNat, Int.reduceLE, Int.reduceLT, Int.reduceEq, dig0_eq, hba, hpos, e0, eq_true l0, hpt, hpf, n0, q0, n1, q1, n2, q2, n3, q3, n4, q4, n5, q5, n6, q6]
    clear e0 l0 hpt hpf hba n0 q0 n1 q1 n2 q2 n3 q3 n4 q4 n5 q5 n6 q6 h1 hk hl0 hpos
    generalize (pf.length : Int) = V at *
    (repeat' refine ite_intro (fun _ => ?_) fun _ => ?_) <;> first | (simp_all; done) | (simp_all; omega)
  · have e0 : ((⟨(partsN 4).toArray⟩ : ByteArray) = ⟨#[]⟩) = False := eq_false (by decide)
    have l0 : (partsN 4).length ≤ 1000000 := by decide
    have n0 : (partsN 4).contains 115 = false := by decide
    have q0 : (partsL 4).contains 115 = false := by decide
    have n1 : (partsN 4).contains 102 = true := by decide
    have q1 : (partsL 4).contains 102 = true := by decide
    have n2 : (partsN 4).contains 110 = true := by decide
    have q2 : (partsL 4).contains 122 = true := by decide
    have n3 : (partsN 4).contains 114 = false := by decide
    have q3 : (partsL 4).contains 114 = false := by decide
    have n4 : (partsN 4).contains 99 = false := by decide
    have q4 : (partsL 4).contains 99 = false := by decide
    have n5 : (partsN 4).contains 112 = false := by decide
    have q5 : (partsL 4).contains 112 = false := by decide
    have n6 : (partsN 4).contains 108 = false := by decide
    have q6 : (partsL 4).contains 108 = false := by decide
    simp only [go_sem, ↓reduceIte, reduceCtorEq, Nat.reduceAdd, Nat.reduceMul, Nat.reduceEqDiff, Nat.reduceSub, Nat.reduceLT, Nat.reduceLeDiff, Nat.reduceAnd, Nat.reduceShiftRight, Nat.reduceBEq, Nat.reduceBNe, Nat.reduceBneDiff, Nat.reduceBeqDiff, Int.reduceToNat, Int.reduceLE, Int.reduceLT, Int.reduceEq, dig0_eq, hba, hpos, e0, eq_true l0, hpt, hpf, n0, q0, n1, q1, n2, q2, n3, q3, n4, q4, n5, q5, n6, q6]
    clear e0 l0 hpt hpf hba n0 q0 n1 q1 n2 q2 n3 q3 n4 q4 n5 q5 n6 q6 h1 hk hl0 hpos
    generalize (pf.length : Int) = V at *
    (repeat' refine ite_intro (fun _ => ?_) fun _ => ?_) <;> first | (simp_all; done) | (simp_all; omega)
  · have e0 : ((⟨(partsN 5).toArray⟩ : ByteArray) = ⟨#[]⟩) = False := eq_false (by decide)
    have l0 : (partsN 5).length ≤ 1000000 := by decide
    have n0 : (partsN 5).contains 115 = false := by decide
    have q0 : (partsL 5).contains 115 = false := by decide
    have n1 : (partsN 5).contains 102 = true := by decide
    have q1 : (partsL 5).contains 102 = true := by decide
    have n2 : (partsN 5).contains 110 = true := by decide
    have q2 : (partsL 5).contains 122 = true := by decide
    have n3 : (partsN 5).contains 114 = false := by decide
    have q3 : (partsL 5).contains 114 = false := by decide
    have n4 : (partsN 5).contains 99 = false := by decide
    have q4 : (partsL 5).contains 99 = false := by decide
    have n5 : (partsN 5).contains 112 = true := by decide
    have q5 : (partsL 5).contains 112 = true := by decide
    have n6 : (partsN 5).contains 108 = false := by decide
    have q6 : (partsL 5).contains 108 = false := by decide
    simp only [go_sem, ↓reduceIte, reduceCtorEq, Nat.reduceAdd, Nat.reduceMul, Nat.reduceEqDiff, Nat.reduceSub, Nat.reduceLT, Nat.reduceLeDiff, Nat.reduceAnd, Nat.reduceShiftRight, Nat.reduceBEq, Nat.reduceBNe, Nat.reduceBneDiff, Nat.reduceBeqDiff, Int.reduceToNat, Int.reduceLE, Int.reduceLT, Int.reduceEq, dig0_eq, hba, hpos, e0, eq_true l0, hpt, hpf, n0, q0, n1, q1, n2, q2, n3, q3, n4, q4, n5, q5, n6, q6]
    clear e0 l0 hpt hpf hba n0 q0 n1 q1 n2 q2 n3 q3 n4 q4 n5 q5 n6 q6 h1 hk hl0 hpos
    generalize (pf.length : Int) = V at *
    (repeat' refine ite_intro (fun _ => ?_) fun _ => ?_) <;> first | (simp_all; done) | (simp_all; omega)
  · have e0 : ((⟨(partsN 6).toArray⟩ : ByteArray) = ⟨#[]⟩) = False := eq_false (by decide)
    have l0 : (partsN 6).length ≤ 1000000 := by decide
    have n0 : (partsN 6).contains 115 = true := by decide
    have q0 : (partsL 6).contains 115 = true := by decide
    have n1 : (partsN 6).contains 102 = false := by decide
    have q1 : (partsL 6).contains 102 = false := by decide
    have n2 : (partsN 6).contains 110 = true := by decide
    have q2 : (partsL 6).contains 122 = true := by decide
    have n3 : (partsN 6).contains 114 = true := by decide
    have q3 : (partsL 6).contains 114 = true := by decide
    have n4 : (partsN 6).contains 99 = false := by decide
    have q4 : (partsL 6).contains 99 = false := by decide
    have n5 : (partsN 6).contains 112 = false := by decide
    have q5 : (partsL 6).contains 112 = false := by decide
    have n6 : (partsN 6).contains 108 = false := by decide
    have q6 : (partsL 6).contains 108 = false := by decide
    simp only [go_sem, ↓reduceIte, reduceCtorEq, Nat.reduceAdd, Nat.reduceMul, Nat.reduceEqDiff, Nat.reduceSub, Nat.reduceLT, Nat.reduceLeDiff, Nat.reduceAnd, Nat.reduceShiftRight, Nat.reduceBEq, Nat.reduceBNe, Nat.reduceBneDiff, Nat.reduceBeqDiff, Int.reduceToNat, Int.reduceLE, Int.reduceLT, Int.reduceEq, dig0_eq, hba, hpos, e0, eq_true l0, hpt, hpf, n0, q0, n1, q1, n2, q2, n3, q3, n4, q4, n5, q5, n6, q6]
    clear e0 l0 hpt hpf hba n0 q0 n1 q1 n2 q2 n3 q3 n4 q4 n5 q5 n6 q6 h1 hk hl0 hpos
    generalize (pf.length : Int) = V at *
    (repeat' refine ite_intro (fun _ => ?_) fun _ => ?_) <;> first | (simp_all; done) | (simp_all; omega)
  · have e0 : ((⟨(partsN 7).toArray⟩ : ByteArray) = ⟨#[]⟩) = False := eq_false (by decide)
    have l0 : (partsN 7).length ≤ 1000000 := by decide
    have n0 : (partsN 7).contains 115 = false := by decide
    have q0 : (partsL 7).contains 115 = false := by decide
    have n1 : (partsN 7).contains 102 = true := by decide
    have q1 : (partsL 7).contains 102 = true := by decide
    have n2 : (partsN 7).contains 110 = false := by decide
    have q2 : (partsL 7).contains 122 = false := by decide
    have n3 : (partsN 7).contains 114 = false := by decide
    have q3 : (partsL 7).contains 114 = false := by decide
    have n4 : (partsN 7).contains 99 = true := by decide
    have q4 : (partsL 7).contains 99 = true := by decide
    have n5 : (partsN 7).contains 112 = false := by decide
    have q5 : (partsL 7).contains 112 = false := by decide
    have n6 : (partsN 7).contains 108 = false := by decide
    have q6 : (partsL 7).contains 108 = false := by decide
    simp only [go_sem, ↓reduceIte, reduceCtorEq, Nat.reduceAdd, Nat.reduceMul, Nat.reduceEqDiff, Nat.reduceSub, Nat.reduceLT, Nat.reduceLeDiff, Nat.reduceAnd, Nat.reduceShiftRight, Nat.reduceBEq, Nat.reduceBNe, Nat.reduceBneDiff, Nat.reduceBeqDiff, Int.reduceToNat, Int.reduceLE, Int.reduceLT, Int.reduceEq, dig0_eq, hba, hpos, e0, eq_true l0, hpt, hpf, n0, q0, n1, q1, n2, q2, n3, q3, n4, q4, n5, q5, n6, q6]
    clear e0 l0 hpt hpf hba n0 q0 n1 q1 n2 q2 n3 q3 n4 q4 n5 q5 n6 q6 h1 hk hl0 hpos
    generalize (pf.length : Int) = V at *
    (repeat' refine ite_intro (fun _ => ?_) fun _ => ?_) <;> first | (simp_all; done) | (simp_all; omega)
  · have e0 : ((⟨(partsN 8).toArray⟩ : ByteArray) = ⟨#[]⟩) = False := eq_false (by decide)
    have l0 : (partsN 8).length ≤ 1000000 := by decide
    have n0 : (partsN 8).contains 115 = false := by decide
    have q0 : (partsL 8).contains 115 = false := by decide
    have n1 : (partsN 8).contains 102 = true := by decide
    have q1 : (partsL 8).contains 102 = true := by decide
    have n2 : (partsN 8).contains 110 = false := by decide
    have q2 : (partsL 8).contains 122 = false := by decide
    have n3 : (partsN 8).contains 114 = false := by decide
    have q3 : (partsL 8).contains 114 = false := by decide
    have n4 : (partsN 8).contains 99 = false := by decide
    have q4 : (partsL 8).contains 99 = false := by decide
    have n5 : (partsN 8).contains 112 = false := by decide
    have q5 : (partsL 8).contains 112 = false := by decide
    have n6 : (partsN 8).contains 108 = true := by decide
    have q6 : (partsL 8).contains 108 = true := by decide
    simp only [go_sem, ↓reduceIte, reduceCtorEq, Nat.reduceAdd, Nat.reduceMul, Nat.reduceEqDiff, Nat.reduceSub, Nat.reduceLT, Nat.reduceLeDiff, Nat.reduceAnd, Nat.reduceShiftRight, Nat.reduceBEq, Nat.reduceBNe, Nat.reduceBneDiff, Nat.reduceBeqDiff, Int.reduceToNat, Int.reduceLE, Int.reduceLT, Int.reduceEq, dig0_eq, hba, hpos, e0, eq_true l0, hpt, hpf, n0, q0, n1, q1, n2, q2, n3, q3, n4, q4, n5, q5, n6, q6]
    clear e0 l0 hpt hpf hba n0 q0 n1 q1 n2 q2 n3 q3 n4 q4 n5 q5 n6 q6 h1 hk hl0 hpos
    generalize (pf.length : Int) = V at *
    generalize decide ((lv.length : Int) ≤ 8) = q at *
    (repeat' first | refine ite_intro (fun _ => ?_) fun _ => ?_ | refine And.intro h2 ?_) <;> first | (simp_all; done) | (simp_all; omega)
theorem ok_spec_WireOk : MWireOk.ok Try.prog 27 := FM.f1_ok fun m h => f_spec_WireOk m h

end Go.Proofs.YtfccplibbdnkpaaW.V

