/- Functions: marks of lists of numbers and of letters. No condition but each theorem's own. -/
import Derived.Test.YtfccplibbdnkpaaFWA
namespace Go.Proofs.YtfccplibbdnkpaaW.V
open Go Go.Proofs
set_option linter.unusedSimpArgs false
set_option linter.unusedVariables false
set_option maxRecDepth 8000
set_option maxHeartbeats 4000000

set_option synthInstance.maxSize 1000

/-- A number in bytes, the higher first. -/
def nbM : Nat → Nat → List UInt8
  | 0, _ => []
  | k + 1, n => nbM k (n / 256) ++ [UInt8.ofNat (n % 256)]
theorem wr_div (v : Nat) (h : v ≤ 16777215) : IntKind.i64.wrap ((v : Int).tdiv 256) = ((v / 256 : Nat) : Int) := by
  have e : (v : Int).tdiv 256 = ((v / 256 : Nat) : Int) := rfl
  rw [e, wrap64] <;> omega
theorem wr_mod (v : Nat) : IntKind.u8.wrap ((v : Int).tmod 256) = ((v % 256 : Nat) : Int) := by
  have e : (v : Int).tmod 256 = ((v % 256 : Nat) : Int) := rfl
  rw [e]
  simp [IntKind.wrap, IntKind.bits, IntKind.signed]
theorem nbM_len : ∀ k n, (nbM k n).length = k
  | 0, _ => rfl
  | k + 1, n => by rw [nbM, List.length_append, nbM_len]; rfl

/-- The bytes of an ask and of a fetch. -/
def tickMsg (m : Msg) : Prop := (∃ s : Nat, 1 ≤ s ∧ s ≤ 1000000 ∧ m = (1, (s : Int), 0, 0, (0, 0, 0, 0), 0, [], [])) ∨ (∃ f c : Nat, f ≤ 256 ∧ 1 ≤ c ∧ c ≤ 8 ∧ m = (7, 0, (f : Int), 0, (0, 0, 0, 0), (c : Int), [], []))
def tickB (m : Msg) : ByteArray := if m.1 = 1 then ⟨([1] ++ nbM 3 m.2.1.toNat).toArray⟩ else ⟨([7] ++ nbM 2 m.2.2.1.toNat ++ nbM 1 m.2.2.2.2.2.1.toNat).toArray⟩
theorem tick_ok {m : Msg} (h : tickMsg m) : wireOkM m = true := by
  rcases h with ⟨s, h1, h2, rfl⟩ | ⟨f, c, h1, h2, h3, rfl⟩
  · have e : decide ((1 : Int) ≤ (s : Int) ∧ (s : Int) ≤ 1000000) = true := decide_eq_true (by omega)
    simp [wireOkM, partsL, partOkM, e]
  · simp [wireOkM, partsL, partOkM]; omega
abbrev MWire : FM := .f1 (CE.st cMsg) eStr.enc tickB tickMsg
attribute [go_sem] MWire

theorem tickB_size (m : Msg) : (tickB m).size = 4 := by
  unfold tickB
  split
  · show ([1] ++ nbM 3 m.2.1.toNat).length = 4
    rw [List.length_append, nbM_len]; rfl
  · show ([7] ++ nbM 2 m.2.2.1.toNat ++ nbM 1 m.2.2.2.2.2.1.toNat).length = 4
    rw [List.length_append, List.length_append, nbM_len, nbM_len]; rfl

/-- The digits of a number, ahead of a text. -/
def digM (k : Nat) (t : List UInt8) : List UInt8 := if h : k = 0 then t else digM (k / 10) (UInt8.ofNat (48 + k % 10) :: t)
termination_by k
decreasing_by omega
theorem digM_0 (t : List UInt8) : digM 0 t = t := by rw [digM]; simp
theorem digM_s {k : Nat} (h : k ≠ 0) (t : List UInt8) : digM k t = digM (k / 10) (UInt8.ofNat (48 + k % 10) :: t) := by
  conv => lhs; rw [digM]
  simp [h]
def textM (k : Nat) : ByteArray := ⟨(109 :: digM k []).toArray⟩

def H_laws_markText : Hint := { fs := [], kp := [(0, [0]), (1, [0]), (2, []), (3, [0]), (4, [0, 3]), (5, [0, 3]), (6, [0, 3]), (7, [3])], an := [] }
attribute [go_sem] H_laws_markText
theorem ok_H_laws_markText : H_laws_markText.ok Try.prog := AllOk.okR .nil .nil mix
theorem f_markText (k : Nat) (h : 1 ≤ k ∧ k ≤ 100000000) : VFun Try.prog 80 [(eInt .i64).enc k] [] (eStr.enc (textM k)) [] := by
  have c0 : ((k : Int) ≤ 0) = False := eq_false (by omega)
  refine VFun_pure (n := 20) (rs := [.tmp 2]) Try.func80 rfl rfl rfl rfl H_laws_markText ok_H_laws_markText _ _ (Nat.le_of_ble_eq_true rfl) (by kernel_rfl) ?_
  simp only [go_sem, ↓reduceIte, reduceCtorEq, Nat.reduceAdd, Nat.reduceMul, Nat.reduceEqDiff, Nat.reduceSub, Nat.reduceLT, Nat.reduceLeDiff, Nat.reduceAnd, Nat.reduceShiftRight, Nat.reduceBEq, Nat.reduceBNe, Nat.reduceBneDiff, Nat.reduceBeqDiff, Int.reduceToNat, Int.reduceLE, Int.reduceLT, Int.reduceEq, c0]
  refine LoopV.go (H := H_laws_markText) ok_H_laws_markText (by kernel_rfl) (fun y : Nat × List UInt8 => ⟨[(0, sc (.int .i64 (y.1 : Int))), (3, sc (.string ⟨y.2.toArray⟩))], [], 2⟩) (fun y => y.1) (fun y => y.1 + y.2.length ≤ 100000000 ∧ digM k [] = digM y.1 y.2) ?_ (k, []) ⟨by simp; omega, rfl⟩
  rintro ⟨j, t⟩ ⟨hj, hd⟩
  dsimp only at hj hd
  by_cases h0 : j = 0
  · subst h0
    have c1 : ((0 : Int) < 0) = False := eq_false (by omega)
    rw [digM_0] at hd
    simp only [go_sem, ↓reduceIte, reduceCtorEq, Nat.reduceAdd, Nat.reduceMul, Nat.reduceEqDiff, Nat.reduceSub, Nat.reduceLT, Nat.reduceLeDiff, Nat.reduceAnd, Nat.reduceShiftRight, Nat.reduceBEq, Nat.reduceBNe, Nat.reduceBneDiff, Nat.reduceBeqDiff, Int.reduceToNat, Int.reduceLE, Int.reduceLT, Int.reduceEq, c1]
    unfold textM
    rw [hd]
    simp only [List.length_nil, Nat.zero_add] at hj
    exact ⟨by omega, rfl⟩
  · have c1 : (0 < (j : Int)) = True := eq_true (by omega)
    rw [digM_s h0] at hd
    have e1 : IntKind.i64.wrap ((j : Int).tdiv 10) = ((j / 10 : Nat) : Int) := by
      rw [show (j : Int).tdiv 10 = ((j / 10 : Nat) : Int) from rfl, wrap64] <;> omega
    have e2 : (IntKind.u8.wrap (IntKind.i64.wrap (48 + (j : Int).tmod 10))).toNat = 48 + j % 10 := by
      have e3 : IntKind.i64.wrap (48 + ((j % 10 : Nat) : Int)) = ((48 + j % 10 : Nat) : Int) := by rw [wrap64] <;> omega
      have e4 : IntKind.u8.wrap ((48 + j % 10 : Nat) : Int) = ((48 + j % 10 : Nat) : Int) := by
        have h3 : 48 + j % 10 < 256 := by omega
        simp only [IntKind.wrap, IntKind.bits, IntKind.signed]
        simp
        omega
      rw [show (j : Int).tmod 10 = ((j % 10 : Nat) : Int) from rfl, e3, e4, Int.toNat_natCast]
    simp only [go_sem, ↓reduceIte, reduceCtorEq, Nat.reduceAdd, Nat.reduceMul, Nat.reduceEqDiff, Nat.reduceSub, Nat.reduceLT, Nat.reduceLeDiff, Nat.reduceAnd, Nat.reduceShiftRight, Nat.reduceBEq, Nat.reduceBNe, Nat.reduceBneDiff, Nat.reduceBeqDiff, Int.reduceToNat, Int.reduceLE, Int.reduceLT, Int.reduceEq, c1, e1, e2]
    exact ⟨by omega, (j / 10, UInt8.ofNat (48 + j % 10) :: t), ⟨by simp only [List.length_cons]; omega, hd⟩, by dsimp only; omega, rfl⟩
abbrev MMarkText : FM := .f1 (eInt .i64) eStr.enc (fun k => textM k.toNat) (fun k => 1 ≤ k ∧ k ≤ 100000000)
attribute [go_sem] MMarkText
theorem ok_laws_markText : MMarkText.ok Try.prog 80 := FM.f1_ok fun k h => by
  obtain ⟨n, rfl⟩ := Int.eq_ofNat_of_zero_le (show 0 ≤ k by omega)
  exact f_markText n ⟨by omega, by omega⟩

/-- What the laws write into a list of numbers. -/
def markI (k n : Nat) : List Int := (List.range n).map fun i => ((k + i : Nat) : Int)
theorem markI_len (k n : Nat) : (markI k n).length = n := by simp [markI]
def markIP (k : Nat) (xs : List Int) (i : Nat) : List Int := markI k i ++ xs.drop i
theorem markIP_len (k : Nat) (xs : List Int) {i : Nat} (h : i ≤ xs.length) : (markIP k xs i).length = xs.length := by
  rw [markIP, List.length_append, markI_len, List.length_drop]; omega
theorem markIP_0 (k : Nat) (xs : List Int) : markIP k xs 0 = xs := rfl
theorem markIP_n (k : Nat) (xs : List Int) : markIP k xs xs.length = markI k xs.length := by
  rw [markIP, List.drop_length, List.append_nil]
theorem markIP_set (k : Nat) (xs : List Int) {i : Nat} (h : i < xs.length) : (markIP k xs i).set i ((k + i : Nat) : Int) = markIP k xs (i + 1) := by
  have e : markI k (i + 1) = markI k i ++ [((k + i : Nat) : Int)] := by simp [markI, List.range_succ]
  rw [markIP, markIP, e, List.set_append_right _ _ (by rw [markI_len]; omega), markI_len, Nat.sub_self, List.drop_eq_getElem_cons h, List.set_cons_zero, List.append_assoc]
  rfl

/-- What the laws write into a list of letters. -/
def markE (k i : Nat) : Letter := (((k + 3 * i : Nat) : Int), ((k + 3 * i + 1 : Nat) : Int), textM (k + 3 * i + 2))
def markT (k n : Nat) : List Letter := (List.range n).map (markE k)
theorem markT_len (k n : Nat) : (markT k n).length = n := by simp [markT]
def markTP (k : Nat) (xs : List Letter) (i : Nat) : List Letter := markT k i ++ xs.drop i
theorem markTP_len (k : Nat) (xs : List Letter) {i : Nat} (h : i ≤ xs.length) : (markTP k xs i).length = xs.length := by
  rw [markTP, List.length_append, markT_len, List.length_drop]; omega
theorem markTP_0 (k : Nat) (xs : List Letter) : markTP k xs 0 = xs := rfl
theorem markTP_n (k : Nat) (xs : List Letter) : markTP k xs xs.length = markT k xs.length := by
  rw [markTP, List.drop_length, List.append_nil]
theorem markTP_set (k : Nat) (xs : List Letter) {i : Nat} (h : i < xs.length) : (markTP k xs i).set i (markE k i) = markTP k xs (i + 1) := by
  have e : markT k (i + 1) = markT k i ++ [markE k i] := by simp [markT, List.range_succ]
  rw [markTP, markTP, e, List.set_append_right _ _ (by rw [markT_len]; omega), markT_len, Nat.sub_self, List.drop_eq_getElem_cons h, List.set_cons_zero, List.append_assoc]
  rfl

/-- What the laws write into a list of texts. -/
def markS (k n : Nat) : List ByteArray := (List.range n).map fun i => textM (k + i)
theorem markS_len (k n : Nat) : (markS k n).length = n := by simp [markS]
def markSP (k : Nat) (xs : List ByteArray) (i : Nat) : List ByteArray := markS k i ++ xs.drop i
theorem markSP_len (k : Nat) (xs : List ByteArray) {i : Nat} (h : i ≤ xs.length) : (markSP k xs i).length = xs.length := by
  rw [markSP, List.length_append, markS_len, List.length_drop]; omega
theorem markSP_0 (k : Nat) (xs : List ByteArray) : markSP k xs 0 = xs := rfl
theorem markSP_n (k : Nat) (xs : List ByteArray) : markSP k xs xs.length = markS k xs.length := by
  rw [markSP, List.drop_length, List.append_nil]
theorem markSP_set (k : Nat) (xs : List ByteArray) {i : Nat} (h : i < xs.length) : (markSP k xs i).set i (textM (k + i)) = markSP k xs (i + 1) := by
  have e : markS k (i + 1) = markS k i ++ [textM (k + i)] := by simp [markS, List.range_succ]
  rw [markSP, markSP, e, List.set_append_right _ _ (by rw [markS_len]; omega), markS_len, Nat.sub_self, List.drop_eq_getElem_cons h, List.set_cons_zero, List.append_assoc]
  rfl

def H_laws_markStringS : Hint := { fs := [(80, MMarkText)], kp := [(0, [0, 1]), (1, [0, 1]), (2, [0, 1, 5]), (4, [0, 1, 5]), (5, [0, 1, 5]), (3, [0, 1, 5]), (6, [1])], an := [] }
attribute [go_sem] H_laws_markStringS
theorem ok_H_laws_markStringS : H_laws_markStringS.ok Try.prog := AllOk.okR (.cons ok_laws_markText .nil) .nil mix
theorem f_markStringS (xs : List ByteArray) (k : Nat) (h : (1 ≤ k ∧ k ≤ 10000000) ∧ xs.length ≤ 10000000) : VFun Try.prog 42 [oL 0 xs, (eInt .i64).enc k] [some (oR cStr xs)] ((eInt .i64).enc ((k + xs.length : Nat) : Int)) [some (oR cStr (markS k xs.length))] := by
  have hml := fun i (h : i ≤ xs.length) => markSP_len k xs h
  have h0 := markSP_0 k xs
  refine VFun_own (rin := [oR cStr xs]) (n := 20) (rs := [.tmp 4]) Try.func42 rfl rfl rfl rfl H_laws_markStringS ok_H_laws_markStringS (Nat.le_of_ble_eq_true rfl) (by kernel_rfl) ?_
  simp only [go_sem, ↓reduceIte, reduceCtorEq, Nat.reduceAdd, Nat.reduceMul, Nat.reduceEqDiff, Nat.reduceSub, Nat.reduceLT, Nat.reduceLeDiff, Nat.reduceAnd, Nat.reduceShiftRight, Nat.reduceBEq, Nat.reduceBNe, Nat.reduceBneDiff, Nat.reduceBeqDiff, Int.reduceToNat, Int.reduceLE, Int.reduceLT, Int.reduceEq]
  refine LoopV.go (H := H_laws_markStringS) ok_H_laws_markStringS (by kernel_rfl) (fun i : Nat => ⟨[(0, .x (.o (.h (0, 0) 0 (markSP k xs i).length (markSP k xs i).length))), (1, sc (.int .i64 ((k + i : Nat) : Int))), (5, sc (.int .i64 i))], [((0, 0), .row 1 ((markSP k xs i).map cStr.enc))], 2⟩) (fun i => xs.length - i) (fun i => i ≤ xs.length) ?_ 0 (Nat.zero_le _)
  intro i hi
  have hmi := hml i hi
  have w1 : IntKind.i64.wrap ((i : Int) + 1) = ((i + 1 : Nat) : Int) := by rw [wrap64] <;> omega
  have w2 : IntKind.i64.wrap (((k + i : Nat) : Int) + 1) = ((k + (i + 1) : Nat) : Int) := by rw [wrap64] <;> omega
  by_cases hlt : i < xs.length
  · have hlt2 : i < (markSP k xs i).length := by omega
    have c1 : ((i : Int) < ((markSP k xs i).length : Int)) = True := eq_true (by omega)
    obtain ⟨a, hx⟩ : ∃ r, (markSP k xs i)[i]? = some r := ⟨_, List.getElem?_eq_getElem hlt2⟩
    have hg : ∀ v : List C, (((markSP k xs i).map cStr.enc).set i v)[i]? = some v := fun v => List.getElem?_set_self (by simpa using hlt2)
    have hs : ((markSP k xs i).map cStr.enc).set i [.v (.string (textM (k + i)))] = (markSP k xs (i + 1)).map cStr.enc := by
      rw [← markSP_set k xs hlt, List.map_set]; rfl
    have hmj := hml (i + 1) (by omega)
    simp only [go_sem, ↓reduceIte, reduceCtorEq, Nat.reduceAdd, Nat.reduceMul, Nat.reduceEqDiff, Nat.reduceSub, Nat.reduceLT, Nat.reduceLeDiff, Nat.reduceAnd, Nat.reduceShiftRight, Nat.reduceBEq, Nat.reduceBNe, Nat.reduceBneDiff, Nat.reduceBeqDiff, Int.reduceToNat, Int.reduceLE, Int.reduceLT, Int.reduceEq, c1, w1, w2, eq_true hlt2, hx, hg, List.length_set, List.length_map, List.set_set]
    exact ⟨by omega, i + 1, by omega, by omega, by rw [hmi, hmj]; exact congrArg (fun r => (⟨_, [((0, 0), Root.row 1 r)], 2⟩ : LS)) hs⟩
  · have hie : i = xs.length := by omega
    have c1 : ((i : Int) < ((markSP k xs i).length : Int)) = False := eq_false (by omega)
    simp only [go_sem, ↓reduceIte, reduceCtorEq, Nat.reduceAdd, Nat.reduceMul, Nat.reduceEqDiff, Nat.reduceSub, Nat.reduceLT, Nat.reduceLeDiff, Nat.reduceAnd, Nat.reduceShiftRight, Nat.reduceBEq, Nat.reduceBNe, Nat.reduceBneDiff, Nat.reduceBeqDiff, Int.reduceToNat, Int.reduceLE, Int.reduceLT, Int.reduceEq, c1]
    subst hie
    rw [markSP_n]
    exact ⟨rfl, rfl⟩
abbrev MMarkS : FM := .mk1 cStr (eInt .i64) (eInt .i64).enc (fun xs k => (markS k.toNat xs.length, ((k.toNat + xs.length : Nat) : Int))) (fun xs k => (1 ≤ k ∧ k ≤ 10000000) ∧ xs.length ≤ 10000000)
attribute [go_sem] MMarkS
theorem ok_laws_markStringS : MMarkS.ok Try.prog 42 := FM.mk1_ok fun xs k h => by
  obtain ⟨n, rfl⟩ := Int.eq_ofNat_of_zero_le (show 0 ≤ k by omega)
  exact f_markStringS xs n ⟨by omega, h.2⟩

def H_laws_heldStringS : Hint := { fs := [(80, MMarkText)], kp := [(0, [0, 1]), (1, [0, 1]), (2, [0, 1, 5]), (4, [0, 1, 5]), (5, []), (6, [0, 1, 5]), (3, [0, 1, 5]), (7, [1])], an := [(4, [0, 0, 3, 7, 0, 16, 63])] }
attribute [go_sem] H_laws_heldStringS
theorem ok_H_laws_heldStringS : H_laws_heldStringS.ok Try.prog := AllOk.okR (.cons ok_laws_markText .nil) .nil mix
theorem f_heldStringS (k n : Nat) (h : (1 ≤ k ∧ k ≤ 10000000) ∧ n ≤ 10000000) : VFun Try.prog 45 [(eList cStr).enc (markS k n), (eInt .i64).enc k] [] ((eInt .i64).enc ((k + n : Nat) : Int)) [] := by
  have hml := markS_len k
  refine VFun_pure (n := 22) (rs := [.tmp 4]) Try.func45 rfl rfl rfl rfl H_laws_heldStringS ok_H_laws_heldStringS _ _ (Nat.le_of_ble_eq_true rfl) (by kernel_rfl) ?_
  simp only [go_sem, ↓reduceIte, reduceCtorEq, Nat.reduceAdd, Nat.reduceMul, Nat.reduceEqDiff, Nat.reduceSub, Nat.reduceLT, Nat.reduceLeDiff, Nat.reduceAnd, Nat.reduceShiftRight, Nat.reduceBEq, Nat.reduceBNe, Nat.reduceBneDiff, Nat.reduceBeqDiff, Int.reduceToNat, Int.reduceLE, Int.reduceLT, Int.reduceEq]
  refine LoopV.go (H := H_laws_heldStringS) ok_H_laws_heldStringS (by kernel_rfl) (fun i : Nat => ⟨[(0, .x (.o (.c (.s ((markS k n).map cStr.enc))))), (1, sc (.int .i64 ((k + i : Nat) : Int))), (5, sc (.int .i64 i))], [], 2⟩) (fun i => n - i) (fun i => i ≤ n) ?_ 0 (Nat.zero_le _)
  intro i hi
  have hmi := hml n
  have w1 : IntKind.i64.wrap ((i : Int) + 1) = ((i + 1 : Nat) : Int) := by rw [wrap64] <;> omega
  have w2 : IntKind.i64.wrap (((k + i : Nat) : Int) + 1) = ((k + (i + 1) : Nat) : Int) := by rw [wrap64] <;> omega
  by_cases hlt : i < n
  · have hlt2 : i < (markS k n).length := by omega
    have c1 : ((i : Int) < ((markS k n).length : Int)) = True := eq_true (by omega)
    have hx : (markS k n)[i]? = some (textM (k + i)) := by
      simp [markS, hlt]
    simp only [go_sem, ↓reduceIte, reduceCtorEq, Nat.reduceAdd, Nat.reduceMul, Nat.reduceEqDiff, Nat.reduceSub, Nat.reduceLT, Nat.reduceLeDiff, Nat.reduceAnd, Nat.reduceShiftRight, Nat.reduceBEq, Nat.reduceBNe, Nat.reduceBneDiff, Nat.reduceBeqDiff, Int.reduceToNat, Int.reduceLE, Int.reduceLT, Int.reduceEq, c1, w1, w2, eq_true hlt2, hx]
    exact ⟨by omega, i + 1, by omega, by omega, rfl⟩
  · have c1 : ((i : Int) < ((markS k n).length : Int)) = False := eq_false (by omega)
    obtain rfl : i = n := by omega
    simp only [go_sem, ↓reduceIte, reduceCtorEq, Nat.reduceAdd, Nat.reduceMul, Nat.reduceEqDiff, Nat.reduceSub, Nat.reduceLT, Nat.reduceLeDiff, Nat.reduceAnd, Nat.reduceShiftRight, Nat.reduceBEq, Nat.reduceBNe, Nat.reduceBneDiff, Nat.reduceBeqDiff, Int.reduceToNat, Int.reduceLE, Int.reduceLT, Int.reduceEq, c1]
abbrev MHeldS : FM := .f2 (eList cStr) (eInt .i64) (eInt .i64).enc (fun xs k => ((k.toNat + xs.length : Nat) : Int)) (fun xs k => xs = markS k.toNat xs.length ∧ (1 ≤ k ∧ k ≤ 10000000) ∧ xs.length ≤ 10000000)
attribute [go_sem] MHeldS
theorem ok_laws_heldStringS : MHeldS.ok Try.prog 45 := FM.f2_ok fun xs k h => by
  obtain ⟨n, rfl⟩ := Int.eq_ofNat_of_zero_le (show 0 ≤ k by omega)
  have := f_heldStringS n xs.length ⟨by omega, h.2.2⟩
  have e : markS n xs.length = xs := h.1.symm
  rw [e] at this
  exact this

end Go.Proofs.YtfccplibbdnkpaaW.V


