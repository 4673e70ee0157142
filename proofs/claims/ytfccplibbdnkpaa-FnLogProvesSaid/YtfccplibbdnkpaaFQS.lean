/- Functions: lists handed over, compared, measured. No condition but each theorem's own. -/
import Derived.Test.YtfccplibbdnkpaaFQT
namespace Go.Proofs.YtfccplibbdnkpaaW.V
open Go Go.Proofs
set_option linter.unusedSimpArgs false
set_option linter.unusedVariables false
set_option maxRecDepth 8000
set_option maxHeartbeats 4000000

set_option synthInstance.maxSize 1000

def H_laws_toDigest : Hint := { fs := [], kp := [(0, [0]), (1, [1, 2]), (2, [1, 2, 3]), (3, [1, 2, 3]), (4, [1, 2, 3]), (5, [1, 2, 3]), (6, [2, 3])], an := [] }
attribute [go_sem] H_laws_toDigest
theorem ok_H_laws_toDigest : H_laws_toDigest.ok Try.prog := AllOk.okR .nil .nil mix
theorem f_toDigest (x : Digest) : VFun Try.prog 32 [(CE.st cDigest).enc x] [] ((CE.st cDigest).enc x) [] := by
  refine VFun_pure (n := 17) (rs := [.cell 2 33]) Try.func32 rfl rfl rfl rfl H_laws_toDigest ok_H_laws_toDigest _ _ (Nat.le_of_ble_eq_true rfl) (by kernel_rfl) ?_
  simp only [go_sem, ↓reduceIte, reduceCtorEq, Nat.reduceAdd, Nat.reduceMul, Nat.reduceEqDiff, Nat.reduceSub, Nat.reduceLT, Nat.reduceLeDiff, Nat.reduceAnd, Nat.reduceShiftRight, Nat.reduceBEq, Nat.reduceBNe, Nat.reduceBneDiff, Nat.reduceBeqDiff, Int.reduceToNat, Int.reduceLE, Int.reduceLT, Int.reduceEq]
abbrev MToDigest : FM := .f1 (CE.st cDigest) (CE.st cDigest).enc (fun x => x) (fun _ => True)
attribute [go_sem] MToDigest
theorem ok_laws_toDigest : MToDigest.ok Try.prog 32 := FM.f1_ok fun x _ => f_toDigest x

/-- A list that is filled. -/
def fillM {A : Type} (z : A) (xs : List A) (i : Nat) : List A := xs.take i ++ List.replicate (xs.length - i) z
theorem fillM_len {A : Type} (z : A) (xs : List A) {i : Nat} (h : i ≤ xs.length) : (fillM z xs i).length = xs.length := by
  rw [fillM, List.length_append, List.length_take, List.length_replicate]; omega
theorem fillM_n {A : Type} (z : A) (xs : List A) : fillM z xs xs.length = xs := by simp [fillM]
theorem fillM_set {A : Type} (z : A) (xs : List A) {i : Nat} {x : A} (h : xs[i]? = some x) : (fillM z xs i).set i x = fillM z xs (i + 1) := by
  have hlt : i < xs.length := (List.getElem?_eq_some_iff.1 h).1
  have ht : (xs.take i).length = i := by rw [List.length_take]; omega
  rw [fillM, List.set_append_right _ _ (by omega), ht, Nat.sub_self, fillM, List.take_add_one, h]
  have e : xs.length - i = (xs.length - (i + 1)) + 1 := by omega
  rw [e, List.replicate_succ, List.set_cons_zero, List.append_assoc]
  rfl

def H_laws_toStringS : Hint := { fs := [], kp := [(0, [0]), (1, [0]), (2, [0, 3]), (3, [0, 3, 4]), (5, [0, 3, 4]), (4, [0, 3, 4]), (6, [3])], an := [], own := true }
attribute [go_sem] H_laws_toStringS
theorem ok_H_laws_toStringS : H_laws_toStringS.ok Try.prog := AllOk.okR .nil .nil mix
theorem o_toStringS (xs) (h : xs.length ≤ 1048576) : VFun Try.prog 31 [(eList cStr).enc xs] [] (oL 0 xs) [some (oR cStr xs)] := by
  have hml := fun i (h : i ≤ xs.length) => fillM_len (⟨#[]⟩ : ByteArray) xs h
  refine VFun_own (rin := []) (n := 22) (rs := [.tmp 2]) Try.func31 rfl rfl rfl rfl H_laws_toStringS ok_H_laws_toStringS (Nat.le_of_ble_eq_true rfl) (by kernel_rfl) ?_
  have h0 : List.replicate xs.length ([.v (.string ⟨#[]⟩)] : List C) = (fillM (⟨#[]⟩ : ByteArray) xs 0).map (cStr).enc := by
    rw [fillM, List.take_zero, List.nil_append, Nat.sub_zero, List.map_replicate]; rfl
  have hz := hml 0 (Nat.zero_le _)
  simp only [go_sem, ↓reduceIte, reduceCtorEq, Nat.reduceAdd, Nat.reduceMul, Nat.reduceEqDiff, Nat.reduceSub, Nat.reduceLT, Nat.reduceLeDiff, Nat.reduceAnd, Nat.reduceShiftRight, Nat.reduceBEq, Nat.reduceBNe, Nat.reduceBneDiff, Nat.reduceBeqDiff, Int.reduceToNat, Int.reduceLE, Int.reduceLT, Int.reduceEq]
  refine ⟨⟨by omega, by omega, by omega⟩, ?_⟩
  refine LoopV.go (H := H_laws_toStringS) ok_H_laws_toStringS (by kernel_rfl) (fun i : Nat => ⟨[(0, .x (.o (.c (.s (xs.map (cStr).enc))))), (3, .x (.o (.h (1, 100) 0 (fillM (⟨#[]⟩ : ByteArray) xs i).length (fillM (⟨#[]⟩ : ByteArray) xs i).length))), (4, sc (.int .i64 i))], [((1, 100), .row 1 ((fillM (⟨#[]⟩ : ByteArray) xs i).map (cStr).enc))], 2⟩) (fun i => xs.length - i) (fun i => i ≤ xs.length) ?_ 0 (Nat.zero_le _) (by rw [hz]; exact congrArg (fun r => (⟨_, [((1, 100), Root.row 1 r)], 2⟩ : LS)) h0)
  intro i hi
  have hmi := hml i hi
  have w1 : IntKind.i64.wrap ((i : Int) + 1) = ((i + 1 : Nat) : Int) := by rw [wrap64] <;> omega
  by_cases hlt : i < xs.length
  · obtain ⟨x, hx⟩ : ∃ r, xs[i]? = some r := ⟨_, List.getElem?_eq_getElem hlt⟩
    have hlt2 : i < (fillM (⟨#[]⟩ : ByteArray) xs i).length := by omega
    obtain ⟨y, hy⟩ : ∃ r, (fillM (⟨#[]⟩ : ByteArray) xs i)[i]? = some r := ⟨_, List.getElem?_eq_getElem hlt2⟩
    have c1 : ((i : Int) < (xs.length : Int)) = True := eq_true (by omega)
    have c2 : ((i : Int) < ((fillM (⟨#[]⟩ : ByteArray) xs i).length : Int)) = True := eq_true (by omega)
    have hs := congrArg (List.map (cStr).enc) (fillM_set (⟨#[]⟩ : ByteArray) xs hx)
    rw [List.map_set] at hs
    have hmj := hml (i + 1) (by omega)
    simp only [go_sem, ↓reduceIte, reduceCtorEq, Nat.reduceAdd, Nat.reduceMul, Nat.reduceEqDiff, Nat.reduceSub, Nat.reduceLT, Nat.reduceLeDiff, Nat.reduceAnd, Nat.reduceShiftRight, Nat.reduceBEq, Nat.reduceBNe, Nat.reduceBneDiff, Nat.reduceBeqDiff, Int.reduceToNat, Int.reduceLE, Int.reduceLT, Int.reduceEq, c1, c2, w1, eq_true hlt2, hx, hy, List.length_set, List.length_map, List.set_set]
    exact ⟨i + 1, by omega, by omega, by rw [hmi, hmj]; exact congrArg (fun r => (⟨_, [((1, 100), Root.row 1 r)], 2⟩ : LS)) hs⟩
  · have c1 : ((i : Int) < (xs.length : Int)) = False := eq_false (by omega)
    obtain rfl : i = xs.length := by omega
    simp only [go_sem, ↓reduceIte, reduceCtorEq, Nat.reduceAdd, Nat.reduceMul, Nat.reduceEqDiff, Nat.reduceSub, Nat.reduceLT, Nat.reduceLeDiff, Nat.reduceAnd, Nat.reduceShiftRight, Nat.reduceBEq, Nat.reduceBNe, Nat.reduceBneDiff, Nat.reduceBeqDiff, Int.reduceToNat, Int.reduceLE, Int.reduceLT, Int.reduceEq, c1]
    rw [fillM_n]
    exact ⟨rfl, rfl⟩
abbrev O_toStringS : FM := .g1 (eList cStr) (fun x => (oL 0 x, [some (oR cStr x)])) (fun x => x.length ≤ 1048576)
attribute [go_sem] O_toStringS
theorem ok_laws_toStringS : O_toStringS.ok Try.prog 31 := FM.g1_ok fun x h => o_toStringS x h

def H_laws_eqStringS : Hint := { fs := [], kp := [(0, [0, 1]), (1, [0, 1]), (2, []), (3, [0, 1]), (4, [0, 1, 5]), (6, [0, 1, 5]), (7, []), (5, [0, 1, 5]), (8, [])], an := [(6, [0, 0, 3, 7, 0, 0, 48, 112, 255])] }
attribute [go_sem] H_laws_eqStringS
theorem ok_H_laws_eqStringS : H_laws_eqStringS.ok Try.prog := AllOk.okR .nil .nil mix
theorem f_eqStringS (xs ys : List ByteArray) (hl : xs.length ≤ maxLen) : VFun Try.prog 41 [(eList cStr).enc xs, (eList cStr).enc ys] [] (eBool.enc (decide (xs = ys))) [] := by
  unfold maxLen at hl
  refine VFun_pure (n := 26) (rs := [.tmp 4]) Try.func41 rfl rfl rfl rfl H_laws_eqStringS ok_H_laws_eqStringS _ _ (Nat.le_of_ble_eq_true rfl) (by kernel_rfl) ?_
  simp only [go_sem, ↓reduceIte, reduceCtorEq, Nat.reduceAdd, Nat.reduceMul, Nat.reduceEqDiff, Nat.reduceSub, Nat.reduceLT, Nat.reduceLeDiff, Nat.reduceAnd, Nat.reduceShiftRight, Nat.reduceBEq, Nat.reduceBNe, Nat.reduceBneDiff, Nat.reduceBeqDiff, Int.reduceToNat, Int.reduceLE, Int.reduceLT, Int.reduceEq]
  refine ite_intro (fun h1 => ?_) fun h1 => ?_
  · have : xs ≠ ys := fun e => by simp [e] at h1
    simp [this]
  · have hlen : xs.length = ys.length := by simp at h1; omega
    refine LoopV.go (H := H_laws_eqStringS) ok_H_laws_eqStringS (by kernel_rfl) (fun i : Nat => ⟨[(0, .x (.o (.c (.s (xs.map cStr.enc))))), (1, .x (.o (.c (.s (ys.map cStr.enc))))), (5, sc (.int .i64 i))], [], 2⟩) (fun i => xs.length - i) (fun i => i ≤ xs.length ∧ ∀ j, j < i → xs[j]? = ys[j]?) ?_ 0 ⟨Nat.zero_le _, fun j h => by omega⟩
    intro i ⟨hi, hall⟩
    rcases Nat.lt_or_ge i xs.length with hlt | hge
    · have hx : xs[i]? = some xs[i] := List.getElem?_eq_getElem hlt
      have hy : ys[i]? = some (ys[i]'(by omega)) := List.getElem?_eq_getElem (by omega)
      generalize xs[i] = x at hx
      generalize ys[i]'(by omega) = y at hy
      have hw : IntKind.i64.wrap ((i : Int) + 1) = ((i + 1 : Nat) : Int) := by rw [wrap64] <;> omega
      have hlt' : ((i : Int) < (xs.length : Int)) = True := by simp; omega
      simp only [go_sem, ↓reduceIte, reduceCtorEq, Nat.reduceAdd, Nat.reduceMul, Nat.reduceEqDiff, Nat.reduceSub, Nat.reduceLT, Nat.reduceLeDiff, Nat.reduceAnd, Nat.reduceShiftRight, Nat.reduceBEq, Nat.reduceBNe, Nat.reduceBneDiff, Nat.reduceBeqDiff, Int.reduceToNat, Int.reduceLE, Int.reduceLT, Int.reduceEq, hx, hy, hw, hlt']
      refine ite_intro (fun h3 => ?_) fun h3 => ⟨i + 1, ⟨hlt, fun j hj => ?_⟩, by omega, rfl⟩
      · have : xs ≠ ys := fun e => by
          rw [e, hy] at hx
          cases hx
          simp at h3
        simp [this]
      · rcases Nat.lt_or_ge j i with h4 | h4
        · exact hall j h4
        · rw [show j = i by omega, hx, hy]
          simpa using h3
    · have hlt' : ((i : Int) < (xs.length : Int)) = False := by simp; omega
      simp only [go_sem, ↓reduceIte, reduceCtorEq, Nat.reduceAdd, Nat.reduceMul, Nat.reduceEqDiff, Nat.reduceSub, Nat.reduceLT, Nat.reduceLeDiff, Nat.reduceAnd, Nat.reduceShiftRight, Nat.reduceBEq, Nat.reduceBNe, Nat.reduceBneDiff, Nat.reduceBeqDiff, Int.reduceToNat, Int.reduceLE, Int.reduceLT, Int.reduceEq, hlt']
      have : xs = ys := List.ext_getElem? fun j => by
        rcases Nat.lt_or_ge j i with h4 | h4
        · exact hall j h4
        · rw [List.getElem?_eq_none (by omega), List.getElem?_eq_none (by omega)]
      simp [this]
abbrev MEqStringS : FM := .f2 (eList cStr) (eList cStr) eBool.enc (fun x y => decide (x = y)) (fun x _ => x.length ≤ maxLen)
attribute [go_sem] MEqStringS
theorem ok_laws_eqStringS : MEqStringS.ok Try.prog 41 := FM.f2_ok fun x y h => f_eqStringS x y h

abbrev FR.p2 {A B R : Type} (a : CE A) (b : CE B) (r : CE R) (pre : A → B → Prop) (post : A → B → R → Prop) : FR where
  md := []
  m args rin := match args, rin with
    | [e1, e2], [] => match a.dec e1, b.dec e2 with
      | some x, some y => some (pre x y, fun k => ∀ v, post x y v → k (r.enc v) [])
      | _, _ => none
    | _, _ => none
theorem FR.p2_ok {P : Program} {g : FuncId} {A B R : Type} {a : CE A} {b : CE B} {r : CE R} {pre : A → B → Prop} {post : A → B → R → Prop} (h : ∀ x y, pre x y → ∃ v, post x y v ∧ VFun P g [a.enc x, b.enc y] [] (r.enc v) []) : (FR.p2 a b r pre post).ok P g := by
  intro args rin pr W hm hp k hk
  simp only [FR.p2] at hm
  split at hm
  · split at hm
    · rename_i e1 e2 _ _ x y h1 h2
      cases hm
      obtain ⟨t, h6, h7⟩ := h x y hp
      exact ⟨_, _, h7.weaken (.cons (a.ok _ _ h1) (.cons (b.ok _ _ h2) .nil)), hk t h6⟩
    · cases hm
  · cases hm

abbrev szGood (n v : Int) (k : Nat) : Prop := -1 ≤ v ∧ v ≤ n ∧ (0 ≤ v → (k : Int) ≤ n)

def H_laws_szStringS : Hint := { fs := [], kp := [(0, [0, 1]), (1, [0, 1]), (2, [0, 1]), (3, []), (4, [0, 1]), (5, [0, 1, 5]), (7, [0, 1, 5]), (8, [0, 1, 5]), (9, []), (6, [0, 1, 5]), (10, [1])], an := [] }
attribute [go_sem] H_laws_szStringS
theorem ok_H_laws_szStringS : H_laws_szStringS.ok Try.prog := AllOk.okR .nil .nil mix
theorem f_szStringS (xs : List ByteArray) (n : Int) (h : xs.length ≤ maxLen ∧ ∀ x ∈ xs, x.size ≤ maxLen) (hn : 0 ≤ n ∧ n ≤ 1048576) : ∃ v : Int, szGood n v xs.length ∧ VFun Try.prog 24 [(eList cStr).enc xs, (eInt .i64).enc n] [] ((eInt .i64).enc v) [] := by
  obtain ⟨h, hx⟩ := h
  unfold maxLen at h hx
  have w1 : IntKind.i64.wrap (n - (xs.length : Int)) = n - (xs.length : Int) := wrap64 (by omega) (by omega)
  refine VFun_rel (n := 28) (rs := [.tmp 4]) Try.func24 rfl rfl rfl rfl H_laws_szStringS ok_H_laws_szStringS  (rin := []) (T := Int) (eInt .i64) (fun t => t) (fun t => []) (fun v => szGood n v xs.length) (Nat.le_of_ble_eq_true rfl) (by kernel_rfl) ?_
  simp only [go_sem, ↓reduceIte, reduceCtorEq, Nat.reduceAdd, Nat.reduceMul, Nat.reduceEqDiff, Nat.reduceSub, Nat.reduceLT, Nat.reduceLeDiff, Nat.reduceAnd, Nat.reduceShiftRight, Nat.reduceBEq, Nat.reduceBNe, Nat.reduceBneDiff, Nat.reduceBeqDiff, Int.reduceToNat, Int.reduceLE, Int.reduceLT, Int.reduceEq, w1]
  refine ite_intro (fun h1 => ⟨-1, ⟨by omega, by omega, fun h => absurd h (by omega)⟩, rfl⟩) fun h1 => ?_
  refine LoopV.go (H := H_laws_szStringS) ok_H_laws_szStringS (by kernel_rfl) (fun y : Int × Nat => ⟨[(0, .x (.o (.c (.s (xs.map cStr.enc))))), (1, sc (.int .i64 y.1)), (5, sc (.int .i64 y.2))], [], 2⟩) (fun y => xs.length - y.2) (fun y => y.2 ≤ xs.length ∧ 0 ≤ y.1 ∧ y.1 ≤ n) ?_ (n - xs.length, 0) ⟨by dsimp only; omega, by dsimp only; omega, by dsimp only; omega⟩
  rintro ⟨m, i⟩ ⟨hi, h2, h3⟩
  dsimp only at hi h2 h3
  have w1 : IntKind.i64.wrap ((i : Int) + 1) = ((i + 1 : Nat) : Int) := by rw [wrap64] <;> omega
  by_cases hlt : i < xs.length
  · obtain ⟨x, hi2⟩ : ∃ r, xs[i]? = some r := ⟨_, List.getElem?_eq_getElem hlt⟩
    have hs := hx x (List.mem_of_getElem? hi2)
    have c1 : ((i : Int) < (xs.length : Int)) = True := eq_true (by omega)
    have w2 : IntKind.i64.wrap (m - (x.size : Int)) = m - (x.size : Int) := wrap64 (by omega) (by omega)
    simp only [go_sem, ↓reduceIte, reduceCtorEq, Nat.reduceAdd, Nat.reduceMul, Nat.reduceEqDiff, Nat.reduceSub, Nat.reduceLT, Nat.reduceLeDiff, Nat.reduceAnd, Nat.reduceShiftRight, Nat.reduceBEq, Nat.reduceBNe, Nat.reduceBneDiff, Nat.reduceBeqDiff, Int.reduceToNat, Int.reduceLE, Int.reduceLT, Int.reduceEq, c1, w1, w2, hi2]
    refine ite_intro (fun h4 => ⟨-1, ⟨by omega, by omega, fun h => absurd h (by omega)⟩, rfl⟩) fun h4 => ?_
    exact ⟨(m - x.size, i + 1), ⟨by dsimp only; omega, by dsimp only; omega, by dsimp only; omega⟩, by dsimp only; omega, rfl⟩
  · have c1 : ((i : Int) < (xs.length : Int)) = False := eq_false (by omega)
    simp only [go_sem, ↓reduceIte, reduceCtorEq, Nat.reduceAdd, Nat.reduceMul, Nat.reduceEqDiff, Nat.reduceSub, Nat.reduceLT, Nat.reduceLeDiff, Nat.reduceAnd, Nat.reduceShiftRight, Nat.reduceBEq, Nat.reduceBNe, Nat.reduceBneDiff, Nat.reduceBeqDiff, Int.reduceToNat, Int.reduceLE, Int.reduceLT, Int.reduceEq, c1]
    exact ⟨m, ⟨by omega, by omega, fun _ => by omega⟩, rfl⟩
abbrev RSzStringS : FR := .p2 (eList cStr) (eInt .i64) (eInt .i64) (fun xs n => (xs.length ≤ maxLen ∧ ∀ x ∈ xs, x.size ≤ maxLen) ∧ 0 ≤ n ∧ n ≤ 1048576) (fun xs n v => szGood n v xs.length)
attribute [go_sem] RSzStringS
theorem ok_laws_szStringS : RSzStringS.ok Try.prog 24 := FR.p2_ok fun xs n h => f_szStringS xs n h.1 h.2

def H_impl_copied_string : Hint := { fs := [], kp := [(0, [0]), (1, [0]), (2, []), (3, [0]), (4, [0, 3]), (5, [3])], an := [], own := true, ow := [(0, 0, 1)] }
attribute [go_sem] H_impl_copied_string
theorem ok_H_impl_copied_string : H_impl_copied_string.ok Try.prog := AllOk.okR .nil .nil mix
theorem o_copied_string (xs) (h : xs.length ≤ 1100000) : VFun Try.prog 38 [(eList cStr).enc xs] [] (oL 0 xs) [some (oR cStr xs)] := by
  refine VFun_own (rin := []) (n := 14) (rs := [.tmp 2]) Try.func38 rfl rfl rfl rfl H_impl_copied_string ok_H_impl_copied_string (Nat.le_of_ble_eq_true rfl) (by kernel_rfl) ?_
  simp only [go_sem, ↓reduceIte, reduceCtorEq, Nat.reduceAdd, Nat.reduceMul, Nat.reduceEqDiff, Nat.reduceSub, Nat.reduceLT, Nat.reduceLeDiff, Nat.reduceAnd, Nat.reduceShiftRight, Nat.reduceBEq, Nat.reduceBNe, Nat.reduceBneDiff, Nat.reduceBeqDiff, Int.reduceToNat, Int.reduceLE, Int.reduceLT, Int.reduceEq]
  refine ite_intro (fun h1 => ?_) fun h1 => ?_
  · have : xs = [] := by simpa using h1
    rw [this]; exact ⟨rfl, rfl⟩
  · (repeat' apply And.intro) <;> first | omega | exact map_len_all cStr rfl xs | (simp; done) | rfl
abbrev OCopied_string : FM := .g1 (eList cStr) (fun xs => (oL 0 xs, [some (oR cStr xs)])) (fun xs => xs.length ≤ 1100000)
attribute [go_sem] OCopied_string
theorem ok_impl_copied_string : OCopied_string.ok Try.prog 38 := FM.g1_ok fun xs h => o_copied_string xs h

def H_spec_l2Leaves : Hint := { fs := [], kp := [(0, [0]), (1, [0]), (2, [0, 3]), (3, [0, 3, 4]), (5, [0, 3, 4]), (4, [0, 3, 4]), (6, [3])], an := [], own := true }
attribute [go_sem] H_spec_l2Leaves
theorem ok_H_spec_l2Leaves : H_spec_l2Leaves.ok Try.prog := AllOk.okR .nil .nil mix
theorem o_l2Leaves (xs : List ByteArray) (h : xs.length ≤ 1100000) : VFun Try.prog 30 [(eList cStr).enc xs] [] (oL 0 xs) [some (oR cStr xs)] := by
  refine VFun_own (rin := []) (n := 20) (rs := [.tmp 2]) Try.func30 rfl rfl rfl rfl H_spec_l2Leaves ok_H_spec_l2Leaves (Nat.le_of_ble_eq_true rfl) (by kernel_rfl) ?_
  simp only [go_sem, ↓reduceIte, reduceCtorEq, Nat.reduceAdd, Nat.reduceMul, Nat.reduceEqDiff, Nat.reduceSub, Nat.reduceLT, Nat.reduceLeDiff, Nat.reduceAnd, Nat.reduceShiftRight, Nat.reduceBEq, Nat.reduceBNe, Nat.reduceBneDiff, Nat.reduceBeqDiff, Int.reduceToNat, Int.reduceLE, Int.reduceLT, Int.reduceEq]
  refine LoopV.go (H := H_spec_l2Leaves) ok_H_spec_l2Leaves (by kernel_rfl) (fun i : Nat => ⟨[(0, .x (.o (.c (.s (xs.map cStr.enc))))), (3, .x (.o (.h (1, 100) 0 (xs.take i).length (xs.take i).length))), (4, sc (.int .i64 i))], [((1, 100), .row 1 ((xs.take i).map cStr.enc))], 2⟩) (fun i => xs.length - i) (fun i => i ≤ xs.length) ?_ 0 (Nat.zero_le _)
  intro i hi
  have ht : (xs.take i).length = i := by rw [List.length_take]; omega
  by_cases hlt : i < xs.length
  · obtain ⟨x, hx⟩ : ∃ r, xs[i]? = some r := ⟨_, List.getElem?_eq_getElem hlt⟩
    have hy : xs.take (i + 1) = xs.take i ++ [x] := by rw [List.take_add_one, hx]; rfl
    have w1 : IntKind.i64.wrap ((i : Int) + 1) = ((i + 1 : Nat) : Int) := by rw [wrap64] <;> omega
    have c1 : ((i : Int) < (xs.length : Int)) = True := eq_true (by omega)
    simp only [go_sem, ↓reduceIte, reduceCtorEq, Nat.reduceAdd, Nat.reduceMul, Nat.reduceEqDiff, Nat.reduceSub, Nat.reduceLT, Nat.reduceLeDiff, Nat.reduceAnd, Nat.reduceShiftRight, Nat.reduceBEq, Nat.reduceBNe, Nat.reduceBneDiff, Nat.reduceBeqDiff, Int.reduceToNat, Int.reduceLE, Int.reduceLT, Int.reduceEq, hx, w1, c1]
    exact ⟨⟨by omega, by omega⟩, i + 1, hlt, by omega, by rw [hy, List.length_append, List.map_append]; rfl⟩
  · have c1 : ((i : Int) < (xs.length : Int)) = False := eq_false (by omega)
    have htt : xs.take i = xs := List.take_of_length_le (by omega)
    simp only [go_sem, ↓reduceIte, reduceCtorEq, Nat.reduceAdd, Nat.reduceMul, Nat.reduceEqDiff, Nat.reduceSub, Nat.reduceLT, Nat.reduceLeDiff, Nat.reduceAnd, Nat.reduceShiftRight, Nat.reduceBEq, Nat.reduceBNe, Nat.reduceBneDiff, Nat.reduceBeqDiff, Int.reduceToNat, Int.reduceLE, Int.reduceLT, Int.reduceEq, c1, htt]
theorem ok_spec_l2Leaves : OCopied_string.ok Try.prog 30 := FM.g1_ok fun xs h => o_l2Leaves xs h

end Go.Proofs.YtfccplibbdnkpaaW.V

