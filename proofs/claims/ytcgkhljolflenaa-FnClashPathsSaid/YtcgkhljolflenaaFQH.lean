/- The draws of two paths. No condition but each theorem's own. -/
import Derived.Test.YtcgkhljolflenaaFQG
namespace Go.Proofs.YtcgkhljolflenaaW.V
open Go Go.Proofs
set_option linter.unusedSimpArgs false
set_option linter.unusedVariables false
set_option maxRecDepth 8000
set_option maxHeartbeats 4000000

set_option synthInstance.maxSize 1000

def H_spec_l1Rd_pad : Hint := { fs := [], kp := [(0, [0, 1]), (1, [0, 1]), (2, [1, 5])], an := [(2, [0, 0, 3, 0, 8, 31, 0, 0, 192, 511, 1023])], rs := [(32, RPick)] }
attribute [go_sem] H_spec_l1Rd_pad
theorem ok_H_spec_l1Rd_pad : H_spec_l1Rd_pad.ok Try.prog := AllOk.okR .nil (.cons ok_spec_l1Rd_pick .nil) mix
theorem f_pad (b : List UInt8) (p : Int) (s : ByteArray) (h0 : 0 ≤ p) (h1 : p + 1 ≤ rdM) (hs : s.size ≤ 1000) : ∃ t : ByteArray × Int, (p ≤ t.2 ∧ t.2 ≤ p + 1 ∧ t.1.size ≤ s.size + 1) ∧ VFun Try.prog 51 [rdP, eStr.enc s] [some (rdR b p)] (eStr.enc t.1) [some (rdR b t.2)] := by
  unfold rdM at h1
  have w1 : IntKind.i64.wrap ((s.size : Int) + 1) = (s.size : Int) + 1 := by rw [wrap64] <;> omega
  refine VFun_rel (n := 21) (rs := [.tmp 4]) Try.func51 rfl rfl rfl rfl H_spec_l1Rd_pad ok_H_spec_l1Rd_pad  (rin := [rdR b p]) (T := ByteArray × Int) eStr (fun t => t.1) (fun t => [some (rdR b t.2)]) (fun t => p ≤ t.2 ∧ t.2 ≤ p + 1 ∧ t.1.size ≤ s.size + 1) (Nat.le_of_ble_eq_true rfl) (by kernel_rfl) ?_
  simp only [go_sem, ↓reduceIte, reduceCtorEq, Nat.reduceAdd, Nat.reduceMul, Nat.reduceEqDiff, Nat.reduceSub, Nat.reduceLT, Nat.reduceLeDiff, Nat.reduceAnd, Nat.reduceShiftRight, Nat.reduceBEq, Nat.reduceBNe, Nat.reduceBneDiff, Nat.reduceBeqDiff, Int.reduceToNat, Int.reduceLE, Int.reduceLT, Int.reduceEq, w1]
  refine ⟨⟨by omega, by omega⟩, fun v q g => ?_⟩
  have e1 : (s.extract 0 v.toNat).size = v.toNat := by rw [ByteArray.size_extract]; omega
  have e2 : (s.extract v.toNat s.size).size = s.size - v.toNat := by rw [ByteArray.size_extract]; omega
  have e3 : (s.extract 0 v.toNat ++ (⟨#[UInt8.ofNat 255]⟩ : ByteArray) ++ s.extract v.toNat s.size).size = s.size + 1 := by
    rw [ByteArray.size_append, ByteArray.size_append, e1, e2]
    show v.toNat + 1 + _ = _
    omega
  exact ⟨⟨by omega, by omega⟩, by omega, ⟨by omega, by omega, by omega⟩, by omega, (_, q), ⟨by dsimp only; omega, by dsimp only; omega, Nat.le_of_eq e3⟩, rfl, rfl⟩
abbrev RPad : FR := .rd1 eStr eStr.enc (fun _ => 1) (fun s => s.size ≤ 1000) (fun s t => t.size ≤ s.size + 1)
attribute [go_sem] RPad
theorem ok_spec_l1Rd_pad : RPad.ok Try.prog 51 := FR.rd1_ok fun b p s h0 h1 h2 => f_pad b p s h0 h1 h2

abbrev eBack := eT2 (CE.st cDigest) eBool (st_x _) (one_x _ _)
attribute [go_sem] eBack
def backM (s : ByteArray) : Digest × Bool := if s.size = 32 then ((wdAt s.data.toList 0, wdAt s.data.toList 8, wdAt s.data.toList 16, wdAt s.data.toList 24), true) else ((0, 0, 0, 0), false)
def H_spec_HashBack : Hint := { fs := [(48, MWord)], kp := [(0, [0]), (1, [0, 2]), (2, [2]), (3, [0, 2])], an := [] }
attribute [go_sem] H_spec_HashBack
theorem ok_H_spec_HashBack : H_spec_HashBack.ok Try.prog := AllOk.okR (.cons ok_spec_l1Word .nil) .nil mix
theorem f_HashBack (s : ByteArray) (h : s.size ≤ 1000000) : VFun Try.prog 91 [eStr.enc s] [] (eBack.enc (backM s)) [] := by
  refine VFun_pure (n := 17) (rs := [.cell 2 31, .tmp 3]) Try.func91 rfl rfl rfl rfl H_spec_HashBack ok_H_spec_HashBack _ _ (Nat.le_of_ble_eq_true rfl) (by kernel_rfl) ?_
  by_cases h3 : s.size = 32
  · have c1 : ((s.size : Int) = 32) = True := eq_true (by omega)
    have hb : backM s = ((wdAt s.data.toList 0, wdAt s.data.toList 8, wdAt s.data.toList 16, wdAt s.data.toList 24), true) := if_pos h3
    simp only [go_sem, ↓reduceIte, reduceCtorEq, Nat.reduceAdd, Nat.reduceMul, Nat.reduceEqDiff, Nat.reduceSub, Nat.reduceLT, Nat.reduceLeDiff, Nat.reduceAnd, Nat.reduceShiftRight, Nat.reduceBEq, Nat.reduceBNe, Nat.reduceBneDiff, Nat.reduceBeqDiff, Int.reduceToNat, Int.reduceLE, Int.reduceLT, Int.reduceEq, c1, hb]
    (repeat' apply And.intro) <;> first | omega | rfl
  · have c1 : ((s.size : Int) = 32) = False := eq_false (by omega)
    have hb : backM s = ((0, 0, 0, 0), false) := if_neg h3
    simp only [go_sem, ↓reduceIte, reduceCtorEq, Nat.reduceAdd, Nat.reduceMul, Nat.reduceEqDiff, Nat.reduceSub, Nat.reduceLT, Nat.reduceLeDiff, Nat.reduceAnd, Nat.reduceShiftRight, Nat.reduceBEq, Nat.reduceBNe, Nat.reduceBneDiff, Nat.reduceBeqDiff, Int.reduceToNat, Int.reduceLE, Int.reduceLT, Int.reduceEq, c1, hb]
abbrev MBack : FM := .f1 eStr eBack.enc backM (fun s => s.size ≤ 1000000)
attribute [go_sem] MBack
theorem ok_spec_HashBack : MBack.ok Try.prog 91 := FM.f1_ok fun s h => f_HashBack s h

theorem ba_at {S : ByteArray} {k : Nat} (h : k < S.size) : ∃ r, S.data.toList[k]? = some r := ⟨_, List.getElem?_eq_getElem h⟩
def H_spec_l4Rd_moved : Hint := { fs := [(12, MHashBytes), (79, ODigests), (91, MBack)], kp := [(0, [0, 1]), (1, [0, 1]), (2, [0, 5]), (3, [0, 5, 6]), (5, [0, 5, 6]), (6, [0, 5, 6, 7]), (7, [0, 5, 6, 7, 8]), (9, [0, 5, 6, 7, 8]), (10, [0, 5, 6, 7, 8]), (11, [0, 5, 6, 9]), (12, [5, 6, 9, 10]), (13, [5, 6, 11]), (14, [5]), (8, [0, 5, 6, 7, 8]), (4, [0, 5, 6]), (15, [5])], an := [(10, [0, 0, 3, 0, 0, 16, 56, 127, 255]), (12, [0, 0, 3, 0, 8, 31, 0, 0, 192, 511, 1023, 2047, 4095, 4095, 0, 24575, 65535])], rs := [(32, RPick)], cut := [6] }
attribute [go_sem] H_spec_l4Rd_moved
theorem ok_H_spec_l4Rd_moved : H_spec_l4Rd_moved.ok Try.prog := AllOk.okR (.cons ok_spec_HashBytes (.cons ok_spec_l3Digests (.cons ok_spec_HashBack .nil))) (.cons ok_spec_l1Rd_pick .nil) mix
theorem f_moved (b : List UInt8) (p : Int) (l : List Digest) (h0 : 0 ≤ p) (h1 : p + 1 ≤ rdM) (hl : l.length ≤ 1000) : ∃ t : List Digest × Int, (p ≤ t.2 ∧ t.2 ≤ p + 1 ∧ t.1.length ≤ l.length) ∧ VFun Try.prog 50 [rdP, (eList cDigest).enc l] [some (bxP 1), some (bxP 2), some (bxP 3), some (rdR b p)] ((eList cDigest).enc t.1) [some (bxP 1), some (bxP 2), some (bxP 3), some (rdR b t.2)] := by
  unfold rdM at h1
  refine VFun_rel (n := 76) (rs := [.tmp 4]) Try.func50 rfl rfl rfl rfl H_spec_l4Rd_moved ok_H_spec_l4Rd_moved  (rin := [bxP 1, bxP 2, bxP 3, rdR b p]) (T := List Digest × Int) (eList cDigest) (fun t => t.1) (fun t => [some (bxP 1), some (bxP 2), some (bxP 3), some (rdR b t.2)]) (fun t => p ≤ t.2 ∧ t.2 ≤ p + 1 ∧ t.1.length ≤ l.length) (Nat.le_of_ble_eq_true rfl) (by kernel_rfl) ?_
  simp only [go_sem, ↓reduceIte, reduceCtorEq, Nat.reduceAdd, Nat.reduceMul, Nat.reduceEqDiff, Nat.reduceSub, Nat.reduceLT, Nat.reduceLeDiff, Nat.reduceAnd, Nat.reduceShiftRight, Nat.reduceBEq, Nat.reduceBNe, Nat.reduceBneDiff, Nat.reduceBeqDiff, Int.reduceToNat, Int.reduceLE, Int.reduceLT, Int.reduceEq, List.append_nil, Nat.add_zero]
  refine ⟨by omega, ?_⟩
  refine LoopV.go (H := H_spec_l4Rd_moved) ok_H_spec_l4Rd_moved (by kernel_rfl) (fun i : Nat => ⟨[(0, rdP), (5, .x (.o (.h (1, 100) 0 l.length l.length))), (6, sc (.int .i64 i))], [((0, 0), bxP 1), ((0, 1), bxP 2), ((0, 2), bxP 3), ((0, 3), rdR b p), ((1, 100), .row 4 (l.map cDigest.enc))], 2⟩) (fun i => l.length - i) (fun i => i ≤ l.length) ?_ 0 (Nat.zero_le _)
  intro i hi
  have v1 : IntKind.i64.wrap ((i : Int) + 1) = ((i + 1 : Nat) : Int) := by rw [wrap64] <;> omega
  by_cases hlt : i < l.length
  case neg =>
    have c1 : ((i : Int) < (l.length : Int)) = False := eq_false (by omega)
    simp only [go_sem, ↓reduceIte, reduceCtorEq, Nat.reduceAdd, Nat.reduceMul, Nat.reduceEqDiff, Nat.reduceSub, Nat.reduceLT, Nat.reduceLeDiff, Nat.reduceAnd, Nat.reduceShiftRight, Nat.reduceBEq, Nat.reduceBNe, Nat.reduceBneDiff, Nat.reduceBeqDiff, Int.reduceToNat, Int.reduceLE, Int.reduceLT, Int.reduceEq, c1]
    exact ⟨(l, p), ⟨by dsimp only; omega, by dsimp only; omega, by dsimp only; omega⟩, rfl, rfl⟩
  have c1 : ((i : Int) < (l.length : Int)) = True := eq_true (by omega)
  obtain ⟨x, hx⟩ : ∃ r, l[i]? = some r := ⟨_, List.getElem?_eq_getElem hlt⟩
  simp only [go_sem, ↓reduceIte, reduceCtorEq, Nat.reduceAdd, Nat.reduceMul, Nat.reduceEqDiff, Nat.reduceSub, Nat.reduceLT, Nat.reduceLeDiff, Nat.reduceAnd, Nat.reduceShiftRight, Nat.reduceBEq, Nat.reduceBNe, Nat.reduceBneDiff, Nat.reduceBeqDiff, Int.reduceToNat, Int.reduceLE, Int.reduceLT, Int.reduceEq, c1, hx, eq_true hlt]
  refine CutS.intro (H := H_spec_l4Rd_moved) ok_H_spec_l4Rd_moved (by kernel_rfl) (by kernel_rfl) (fun S : ByteArray => ⟨[(0, rdP), (5, .x (.o (.h (1, 100) 0 l.length l.length))), (6, sc (.int .i64 i)), (7, sc (.string S))], [((0, 0), bxP 1), ((0, 1), bxP 2), ((0, 2), bxP 3), ((0, 3), rdR b p), ((1, 100), .row 4 (l.map cDigest.enc))], 2⟩) (fun S => S.size = 32) ?_ ?_
  · simp only [go_sem, ↓reduceIte, reduceCtorEq, Nat.reduceAdd, Nat.reduceMul, Nat.reduceEqDiff, Nat.reduceSub, Nat.reduceLT, Nat.reduceLeDiff, Nat.reduceAnd, Nat.reduceShiftRight, Nat.reduceBEq, Nat.reduceBNe, Nat.reduceBneDiff, Nat.reduceBeqDiff, Int.reduceToNat, Int.reduceLE, Int.reduceLT, Int.reduceEq, c1, hx, eq_true hlt]
    refine ⟨_, ?_, rfl⟩
    rfl
  intro S hsz
  simp only [go_sem, ↓reduceIte, reduceCtorEq, Nat.reduceAdd, Nat.reduceMul, Nat.reduceEqDiff, Nat.reduceSub, Nat.reduceLT, Nat.reduceLeDiff, Nat.reduceAnd, Nat.reduceShiftRight, Nat.reduceBEq, Nat.reduceBNe, Nat.reduceBneDiff, Nat.reduceBeqDiff, Int.reduceToNat, Int.reduceLE, Int.reduceLT, Int.reduceEq]
  refine LoopV.go (H := H_spec_l4Rd_moved) ok_H_spec_l4Rd_moved (by kernel_rfl) (fun k : Nat => ⟨[(0, rdP), (5, .x (.o (.h (1, 100) 0 l.length l.length))), (6, sc (.int .i64 i)), (7, sc (.string S)), (8, sc (.int .i64 k))], [((0, 0), bxP 1), ((0, 1), bxP 2), ((0, 2), bxP 3), ((0, 3), rdR b p), ((1, 100), .row 4 (l.map cDigest.enc))], 2⟩) (fun k => 32 - k) (fun k => k ≤ 32) ?_ 0 (Nat.zero_le _)
  intro k hk
  have v2 : IntKind.i64.wrap ((k : Int) + 1) = ((k + 1 : Nat) : Int) := by rw [wrap64] <;> omega
  by_cases hkl : k < 32
  case neg =>
    have d1 : ((k : Int) < ((32 : Nat) : Int)) = False := eq_false (by omega)
    simp only [go_sem, ↓reduceIte, reduceCtorEq, Nat.reduceAdd, Nat.reduceMul, Nat.reduceEqDiff, Nat.reduceSub, Nat.reduceLT, Nat.reduceLeDiff, Nat.reduceAnd, Nat.reduceShiftRight, Nat.reduceBEq, Nat.reduceBNe, Nat.reduceBneDiff, Nat.reduceBeqDiff, Int.reduceToNat, Int.reduceLE, Int.reduceLT, Int.reduceEq, hsz, d1, v1]
    exact ⟨i + 1, hlt, by omega, rfl⟩
  have d1 : ((k : Int) < ((32 : Nat) : Int)) = True := eq_true (by omega)
  have hl32 : S.data.toList.length = 32 := hsz
  have hy0 : ∃ r, S.data.toList[k]? = some r := ba_at (by omega)
  obtain ⟨y, hy⟩ := hy0
  by_cases hy2 : (y.toNat : Int) = 255
  · have e1 : (S.extract 0 k).size = k := by rw [ByteArray.size_extract]; omega
    have e2 : (S.extract (k + 1) 32).size = 31 - k := by rw [ByteArray.size_extract]; omega
    have e3 : (S.extract 0 k ++ S.extract (k + 1) 32).size = 31 := by rw [ByteArray.size_append, e1, e2]; omega
    have e4 : (S.extract 0 k).size + (S.extract (k + 1) 32).size = 31 := by omega
    have hs : ∀ d : Digest, (l.map cDigest.enc).set i [.v (.int .u64 d.1.toNat), .v (.int .u64 d.2.1.toNat), .v (.int .u64 d.2.2.1.toNat), .v (.int .u64 d.2.2.2.toNat)] = (l.set i d).map cDigest.enc := fun d => by rw [List.map_set]; rfl
    simp only [go_sem, ↓reduceIte, reduceCtorEq, Nat.reduceAdd, Nat.reduceMul, Nat.reduceEqDiff, Nat.reduceSub, Nat.reduceLT, Nat.reduceLeDiff, Nat.reduceAnd, Nat.reduceShiftRight, Nat.reduceBEq, Nat.reduceBNe, Nat.reduceBneDiff, Nat.reduceBeqDiff, Int.reduceToNat, Int.reduceLE, Int.reduceLT, Int.reduceEq, hsz, d1, hy, hy2, v2, Int.toNat_natCast, hx, eq_true hlt, e4, hs, List.length_set, List.append_nil, Nat.add_zero]
    generalize S.extract 0 k ++ S.extract (k + 1) 32 = T at e3 ⊢
    refine ⟨by omega, ⟨by omega, by omega⟩, ⟨by omega, by omega⟩, fun v q g => ?_⟩
    have t1 : (T.extract 0 v.toNat).size ≤ 31 := by rw [ByteArray.size_extract]; omega
    have t2 : (T.extract v.toNat 31).size ≤ 31 := by rw [ByteArray.size_extract]; omega
    exact ⟨⟨by omega, by omega⟩, by omega, ⟨by omega, by omega, by omega⟩, by omega, by omega, (_, q), ⟨by dsimp only; omega, by dsimp only; omega, Nat.le_of_eq (List.length_set ..)⟩, rfl, rfl⟩
  · simp only [go_sem, ↓reduceIte, reduceCtorEq, Nat.reduceAdd, Nat.reduceMul, Nat.reduceEqDiff, Nat.reduceSub, Nat.reduceLT, Nat.reduceLeDiff, Nat.reduceAnd, Nat.reduceShiftRight, Nat.reduceBEq, Nat.reduceBNe, Nat.reduceBneDiff, Nat.reduceBeqDiff, Int.reduceToNat, Int.reduceLE, Int.reduceLT, Int.reduceEq, hsz, d1, hy, hy2, v2]
    exact ⟨k + 1, by omega, by omega, rfl⟩

abbrev FR.rn1 {X R : Type} (a : CE X) (r : R → E) (K : X → Int) (pre : X → Prop) (post : X → R → Prop) : FR where
  md := []
  m args rin := match args, rin with
    | [.x (.o (.p (0, 0) 0 0 1)), e2], [.bx [[.p (0, 1) 0 0 1]], .bx [[.p (0, 2) 0 0 1]], .bx [[.p (0, 3) 0 0 1]], .bx [[.c (.s rows), .c (.v (.int .i64 p))]]] => match mapO cU8.dec rows, a.dec e2 with
      | some b, some x => some (rows = b.map cU8.enc ∧ 0 ≤ p ∧ p + K x ≤ rdM ∧ pre x, fun k => ∀ v q, p ≤ q ∧ q ≤ p + K x ∧ post x v → k (r v) [some (bxP 1), some (bxP 2), some (bxP 3), some (rdR b q)])
      | _, _ => none
    | _, _ => none
theorem FR.rn1_ok {P : Program} {g : FuncId} {X R : Type} {a : CE X} {r : R → E} {K : X → Int} {pre : X → Prop} {post : X → R → Prop} (h : ∀ (b : List UInt8) (p : Int) (x : X), 0 ≤ p → p + K x ≤ rdM → pre x → ∃ t : R × Int, (p ≤ t.2 ∧ t.2 ≤ p + K x ∧ post x t.1) ∧ VFun P g [rdP, a.enc x] [some (bxP 1), some (bxP 2), some (bxP 3), some (rdR b p)] (r t.1) [some (bxP 1), some (bxP 2), some (bxP 3), some (rdR b t.2)]) : (FR.rn1 a r K pre post).ok P g := by
  intro args rin pr W hm hp k hk
  simp only [FR.rn1] at hm
  split at hm
  · split at hm
    · rename_i e2 rows p _ _ b x h1 h2
      cases hm
      obtain ⟨e, h3, h4, h5⟩ := hp
      subst e
      obtain ⟨t, h6, h7⟩ := h b p x h3 h4 h5
      exact ⟨_, _, h7.weaken (.cons (fun _ _ _ _ _ h => h) (.cons (a.ok _ _ h2) .nil)), hk _ _ h6⟩
    · cases hm
  · cases hm
abbrev RMoved : FR := .rn1 (eList cDigest) (eList cDigest).enc (fun _ => 1) (fun l => l.length ≤ 1000) (fun l t => t.length ≤ l.length)
attribute [go_sem] RMoved
theorem ok_spec_l4Rd_moved : RMoved.ok Try.prog 50 := FR.rn1_ok fun b p l h0 h1 h2 => f_moved b p l h0 h1 h2

abbrev Row6 := Int × Int × ByteArray × List Digest × ByteArray × List Digest
abbrev row6E (t : Row6) : E := .t [.o (.c (.v (.int .i64 t.1))), .o (.c (.v (.int .i64 t.2.1))), .o (.c (.v (.string t.2.2.1))), .o (.c (.s (t.2.2.2.1.map cDigest.enc))), .o (.c (.v (.string t.2.2.2.2.1))), .o (.c (.s (t.2.2.2.2.2.map cDigest.enc)))]
attribute [go_sem] row6E
abbrev row6P (t : Row6) : Prop := t.2.2.1.size ≤ 41 ∧ t.2.2.2.1.length ≤ 1000 ∧ t.2.2.2.2.1.size ≤ 41 ∧ t.2.2.2.2.2.length ≤ 1000
def s_cp (b : List UInt8) (l : List ByteArray) (i k : Int) (y : ByteArray × Int) : LS := ⟨[(8, .x (.o (.p (1, 100) 0 0 1))), (9, .x (.o (.c (.s (l.map cStr.enc))))), (11, sc (.int .i64 i)), (12, sc (.string y.1)), (13, sc (.int .i64 k))],
  [((1, 100), .bx [[.p (1, 101) 0 0 1]]), ((1, 101), .bx [[.p (1, 102) 0 0 1]]), ((1, 102), .bx [[.p (1, 103) 0 0 1]]), ((1, 103), rdR (b.take 2000) y.2)], 2⟩
attribute [go_sem] s_cp

def H_spec_DrawClashOfPaths : Hint := { fs := [(30, Ml4Open)], kp := [(0, [0]), (1, [0]), (2, [8]), (3, [8, 9]), (4, [8, 9, 11]), (5, [8, 9, 11, 12]), (6, [8, 9, 11, 12, 13]), (7, [8, 9, 11, 13]), (8, [8, 9, 11, 12, 13]), (9, [8, 9, 11, 12]), (10, [8, 9, 11, 12, 13]), (11, [8, 9, 11, 12]), (12, [8, 9, 11, 12])], rs := [(31, RGrown), (32, RPick), (33, RBent), (34, RPathV), (49, RLeaf), (50, RMoved), (51, RPad)], cut := [8], an := [(9, [0, 1, 0, 0, 0, 24, 56, 0, 0, 384, 0, 0, 0, 0, 13184, 31616, 64387, 129927, 261119, 523263, 1048575, 2097151]), (11, [0, 1, 0, 0, 0, 24, 56, 0, 0, 384, 0, 1024, 3072, 7168, 15360, 31744, 64512, 130048, 261120, 523264, 0, 2097024, 0, 0, 16777088, 33554307, 67108743, 134217727, 268435455, 536870911, 1073741823]), (12, [0, 1, 0, 0, 0, 24, 56, 0, 128, 384, 896, 0, 0, 6144, 16256, 0, 0, 65536, 196608, 458752, 0, 0, 3178368, 8355712, 16744323, 33521543, 67076095, 134184959, 268435455, 536870911])] }
attribute [go_sem] H_spec_DrawClashOfPaths
theorem ok_H_spec_DrawClashOfPaths : H_spec_DrawClashOfPaths.ok Try.prog := AllOk.okR (.cons ok_spec_l4Open .nil) (.cons ok_spec_l3Rd_grown (.cons ok_spec_l1Rd_pick (.cons ok_spec_l3Rd_bent (.cons ok_l3PathV (.cons ok_spec_l2Rd_leaf (.cons ok_spec_l4Rd_moved (.cons ok_spec_l1Rd_pad .nil))))))) mix
theorem f_DrawClashOfPaths (b : List UInt8) (h : b.length ≤ 1048576) : ∃ t : Row6, row6P t ∧ VFun Try.prog 13 [(eList cU8).enc b] [] (row6E t) [] := by
  refine VFun_relE (n := 131) (rs := [.tmp 2, .tmp 3, .tmp 4, .tmp 5, .tmp 6, .tmp 7]) Try.func13 rfl rfl rfl rfl H_spec_DrawClashOfPaths ok_H_spec_DrawClashOfPaths  (rin := []) (T := Row6) (fun t => row6E t) (fun t => []) (fun t => row6P t) (Nat.le_of_ble_eq_true rfl) (by kernel_rfl) ?_
  simp only [go_sem, ↓reduceIte, reduceCtorEq, Nat.reduceAdd, Nat.reduceMul, Nat.reduceEqDiff, Nat.reduceSub, Nat.reduceLT, Nat.reduceLeDiff, Nat.reduceAnd, Nat.reduceShiftRight, Nat.reduceBEq, Nat.reduceBNe, Nat.reduceBneDiff, Nat.reduceBeqDiff, Int.reduceToNat, Int.reduceLE, Int.reduceLT, Int.reduceEq]
  refine ⟨h, by omega, ?_⟩
  rintro ⟨l, m⟩ q ⟨g1, g2, g3, g4, g5, g6, g7⟩
  dsimp only at g3 g4 g5 g6 g7 ⊢
  refine ⟨⟨by omega, by omega⟩, fun i q1 k1 => ?_⟩
  have hi0 := Int.eq_ofNat_of_zero_le k1.2.2.1
  obtain ⟨i, rfl⟩ := hi0
  have hil : i < l.length := by omega
  have hx0 : ∃ r, l[i]? = some r := ⟨_, List.getElem?_eq_getElem hil⟩
  obtain ⟨x, hx⟩ := hx0
  have hs := g5 x (List.mem_of_getElem? hx)
  simp only [go_sem, ↓reduceIte, reduceCtorEq, Nat.reduceAdd, Nat.reduceMul, Nat.reduceEqDiff, Nat.reduceSub, Nat.reduceLT, Nat.reduceLeDiff, Nat.reduceAnd, Nat.reduceShiftRight, Nat.reduceBEq, Nat.reduceBNe, Nat.reduceBneDiff, Nat.reduceBeqDiff, Int.reduceToNat, Int.reduceLE, Int.reduceLT, Int.reduceEq, Int.toNat_natCast, hx, eq_true hil]
  refine ⟨⟨by omega, by omega⟩, fun k q2 k2 => ?_⟩
  refine CutS.intro (H := H_spec_DrawClashOfPaths) ok_H_spec_DrawClashOfPaths (by kernel_rfl) (by kernel_rfl) (s_cp b l i k) (fun y => y.1.size ≤ 40 ∧ 0 ≤ y.2 ∧ y.2 ≤ 1000) ?_ ?_
  · simp only [go_sem, ↓reduceIte, reduceCtorEq, Nat.reduceAdd, Nat.reduceMul, Nat.reduceEqDiff, Nat.reduceSub, Nat.reduceLT, Nat.reduceLeDiff, Nat.reduceAnd, Nat.reduceShiftRight, Nat.reduceBEq, Nat.reduceBNe, Nat.reduceBneDiff, Nat.reduceBeqDiff, Int.reduceToNat, Int.reduceLE, Int.reduceLT, Int.reduceEq]
    refine ite_intro (fun c => ?_) fun c => ?_
    · refine ⟨⟨by omega, by omega⟩, fun y q3 k3 => ?_⟩
      exact ⟨(y, q3), ⟨k3.2.2, by dsimp only; omega, by dsimp only; omega⟩, rfl⟩
    · exact ⟨(x, q2), ⟨hs, by dsimp only; omega, by dsimp only; omega⟩, rfl⟩
  clear k2 k1
  rintro ⟨y, q⟩ ⟨j1, j2, j3⟩
  dsimp only at j1 j2 j3
  simp only [go_sem, ↓reduceIte, reduceCtorEq, Nat.reduceAdd, Nat.reduceMul, Nat.reduceEqDiff, Nat.reduceSub, Nat.reduceLT, Nat.reduceLeDiff, Nat.reduceAnd, Nat.reduceShiftRight, Nat.reduceBEq, Nat.reduceBNe, Nat.reduceBneDiff, Nat.reduceBeqDiff, Int.reduceToNat, Int.reduceLE, Int.reduceLT, Int.reduceEq, Int.toNat_natCast, hx, eq_true hil]
  have hL : ((1 ≤ l.length ∧ l.length ≤ 256) ∧ (∀ x ∈ l, x.size ≤ 40) ∧ (i : Int) < l.length) := ⟨⟨by omega, by omega⟩, g5, by omega⟩
  refine ite_intro (fun _ => ⟨hL, fun xs hxs => ⟨hL, fun xs2 hx2 => ⟨⟨by omega, by omega, by omega⟩, fun v q3 k3 => ⟨((l.length : Int), (i : Int), x, xs, y, v), ⟨by dsimp only; omega, by dsimp only; omega, by dsimp only; omega, by dsimp only; omega⟩, rfl⟩⟩⟩⟩) fun _ => ite_intro (fun _ => ⟨hL, fun xs hxs => ⟨⟨by omega, by omega, by omega⟩, fun v q3 k3 => ⟨hL, fun xs2 hx2 => ⟨((l.length : Int), (i : Int), x, xs, v, xs2), ⟨by dsimp only; omega, by dsimp only; omega, by dsimp only; omega, by dsimp only; omega⟩, rfl⟩⟩⟩⟩) fun _ => ⟨hL, fun xs hxs => ⟨⟨by omega, by omega, by omega⟩, fun v q3 k3 => ⟨hL, fun xs2 hx2 => ⟨⟨by omega, by omega, by omega⟩, fun v2 q4 k4 => ⟨((l.length : Int), (i : Int), x, v, y, v2), ⟨by dsimp only; omega, by dsimp only; omega, by dsimp only; omega, by dsimp only; omega⟩, rfl⟩⟩⟩⟩⟩
abbrev RDrawClashOfPaths : FR := .drE row6E row6P
attribute [go_sem] RDrawClashOfPaths
theorem ok_spec_DrawClashOfPaths : RDrawClashOfPaths.ok Try.prog 13 := FR.drE_ok fun b h => f_DrawClashOfPaths b h

end Go.Proofs.YtcgkhljolflenaaW.V

