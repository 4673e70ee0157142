/- The draws of leaves and paths: of what is drawn only something is said. No condition but each theorem's own. -/
import Derived.Test.YtcgkhljolflenaaGreatFQP
import Derived.Test.YtcgkhljolflenaaGreatFRw
import Derived.Test.YtcgkhljolflenaaGreatFQR
import Derived.Test.YtcgkhljolflenaaGreatFGA
namespace Go.Proofs.YtcgkhljolflenaaGreatW.V
open Go Go.Proofs
set_option linter.unusedSimpArgs false
set_option linter.unusedVariables false
set_option maxRecDepth 8000
set_option maxHeartbeats 4000000

set_option synthInstance.maxSize 1000

abbrev eGrown := eT2 (eList cStr) (eInt .i64) (one_x _ _) (one_x _ _)
attribute [go_sem] eGrown
abbrev grownP (t : List ByteArray × Int) : Prop := 1 ≤ t.1.length ∧ t.1.length ≤ 71 ∧ (∀ x ∈ t.1, x.size ≤ 40) ∧ 0 ≤ t.2 ∧ t.2 ≤ t.1.length
def H_spec_l3Rd_grown : Hint := { fs := [], kp := [(0, [0]), (1, [0]), (2, [0, 4])], an := [(1, [0, 1, 3, 7, 0, 16, 48, 112, 240, 496, 1023, 2047])], rs := [(16, RPick), (39, RLeaves), (40, RSize)] }
attribute [go_sem] H_spec_l3Rd_grown
theorem ok_H_spec_l3Rd_grown : H_spec_l3Rd_grown.ok Tryz.prog := AllOk.okR .nil (.cons ok_spec_l1Rd_pick (.cons ok_spec_l2Rd_leaves (.cons ok_spec_l2Rd_size .nil))) mix
theorem f_grown (b : List UInt8) (p : Int) (h0 : 0 ≤ p) (h1 : p + 800 ≤ rdM) : ∃ t : (List ByteArray × Int) × Int, (p ≤ t.2 ∧ t.2 ≤ p + 800 ∧ grownP t.1) ∧ VFun Tryz.prog 15 [rdP] [some (bxP 1), some (bxP 2), some (rdR b p)] (eGrown.enc t.1) [some (bxP 1), some (bxP 2), some (rdR b t.2)] := by
  unfold rdM at h1
  refine VFun_rel (n := 28) (rs := [.tmp 2, .tmp 3]) Tryz.func15 rfl rfl rfl rfl H_spec_l3Rd_grown ok_H_spec_l3Rd_grown  (rin := [bxP 1, bxP 2, rdR b p]) (T := (List ByteArray × Int) × Int) eGrown (fun t => t.1) (fun t => [some (bxP 1), some (bxP 2), some (rdR b t.2)]) (fun t => p ≤ t.2 ∧ t.2 ≤ p + 800 ∧ grownP t.1) (Nat.le_of_ble_eq_true rfl) (by kernel_rfl) ?_
  simp only [go_sem, ↓reduceIte, reduceCtorEq, Nat.reduceAdd, Nat.reduceMul, Nat.reduceEqDiff, Nat.reduceSub, Nat.reduceLT, Nat.reduceLeDiff, Nat.reduceAnd, Nat.reduceShiftRight, Nat.reduceBEq, Nat.reduceBNe, Nat.reduceBneDiff, Nat.reduceBeqDiff, Int.reduceToNat, Int.reduceLE, Int.reduceLT, Int.reduceEq]
  refine ⟨⟨by omega, by omega⟩, fun v q g => ?_⟩
  have w1 : IntKind.i64.wrap (1 + v) = 1 + v := by rw [wrap64] <;> omega
  simp only [w1]
  refine ⟨⟨by omega, by omega, by omega, by omega⟩, fun l q2 g2 => ?_⟩
  obtain ⟨g21, g22, g23, g24⟩ := g2
  have w2 : IntKind.i64.wrap ((l.length : Int) + 1) = (l.length : Int) + 1 := by rw [wrap64] <;> omega
  simp only [w2]
  refine ⟨⟨by omega, by omega⟩, fun m q3 g3 => ⟨((l, m), q3), ⟨by dsimp only; omega, by dsimp only; omega, by dsimp only; omega, by dsimp only; omega, g24, by dsimp only; omega, by dsimp only; omega⟩, rfl, rfl⟩⟩
abbrev RGrown : FR := .rm0 eGrown.enc 800 grownP
attribute [go_sem] RGrown
theorem ok_spec_l3Rd_grown : RGrown.ok Tryz.prog 15 := FR.rm0_ok fun b p h0 h1 => f_grown b p h0 h1

/-- A path that is drawn: own, and not longer than there are leaves. -/
abbrev RPathN (N : Nat) : FR where
  md := []
  m args rin := match args, rin with
    | [e1, e2], [] => match (eList cStr).dec e1, (eInt .i64).dec e2 with
      | some l, some i => some (l.length < N ∧ (1 ≤ l.length ∧ l.length ≤ 256) ∧ (∀ x ∈ l, x.size ≤ 40) ∧ (0 ≤ i ∧ i < l.length), fun k => ∀ xs : List Digest, xs.length ≤ l.length → k (oL 0 xs) [some (oR cDigest xs)])
      | _, _ => none
    | _, _ => none
attribute [go_sem] RPathN
theorem RPathN_ok {P : Program} {g : FuncId} {N : Nat} (h : ∀ (l : List ByteArray) (i : Int), l.length < N ∧ (1 ≤ l.length ∧ l.length ≤ 256) ∧ (∀ x ∈ l, x.size ≤ 40) ∧ (0 ≤ i ∧ i < l.length) → ∃ xs : List Digest, xs.length ≤ l.length ∧ VFun P g [(eList cStr).enc l, (eInt .i64).enc i] [] (oL 0 xs) [some (oR cDigest xs)]) : (RPathN N).ok P g := by
  intro args rin pr W hm hp k hk
  simp only [RPathN] at hm
  split at hm
  · split at hm
    · rename_i e1 e2 _ _ l i h1 h2
      cases hm
      obtain ⟨t, h6, h7⟩ := h l i hp
      exact ⟨_, _, h7.weaken (.cons (CE.ok _ _ _ h1) (.cons (CE.ok _ _ _ h2) .nil)), hk t h6⟩
    · cases hm
  · cases hm

def H_spec_l3Path (N : Nat) : Hint := { fs := [(45, MSplit), (46, MRoot)], kp := [(0, [0, 1]), (1, [0, 1]), (2, []), (3, [0, 1]), (4, [0, 1, 5]), (5, [0, 1, 5]), (6, [0, 1, 5])], an := [(5, [0, 0, 3, 0, 15, 0, 0, 96, 255, 511, 1023, 2047]), (6, [0, 0, 3, 0, 0, 24, 63, 0, 0, 384, 1023, 2047, 4095, 8191])], rs := [(19, (RPathN N))], own := true }
attribute [go_sem] H_spec_l3Path
theorem ok_H_spec_l3Path (N : Nat) (ih : (RPathN N).ok Tryz.prog 19) : (H_spec_l3Path N).ok Tryz.prog := AllOk.okR (.cons ok_spec_TreeSplit (.cons ok_l2Root .nil)) (.cons ih .nil) mix
theorem f_l3Path : ∀ (N : Nat) (l : List ByteArray) (i : Int), l.length < N ∧ (1 ≤ l.length ∧ l.length ≤ 256) ∧ (∀ x ∈ l, x.size ≤ 40) ∧ (0 ≤ i ∧ i < l.length) → ∃ xs : List Digest, xs.length ≤ l.length ∧ VFun Tryz.prog 19 [(eList cStr).enc l, (eInt .i64).enc i] [] (oL 0 xs) [some (oR cDigest xs)]
  | 0, l, i, h => absurd h.1 (by omega)
  | N + 1, l, i, h => by
    have ih : (RPathN N).ok Tryz.prog 19 := RPathN_ok fun l i h => f_l3Path N l i h
    obtain ⟨h0, h1, h2, h3⟩ := h
    obtain ⟨i, rfl⟩ := Int.eq_ofNat_of_zero_le h3.1
    refine VFun_relE (n := 40) (rs := [.tmp 4]) Tryz.func19 rfl rfl rfl rfl (H_spec_l3Path N) (ok_H_spec_l3Path N ih)  (rin := []) (T := List Digest) (fun xs => oL 0 xs) (fun xs => [some (oR cDigest xs)]) (fun xs => xs.length ≤ l.length) (Nat.le_of_ble_eq_true rfl) (by kernel_rfl) ?_
    by_cases hm : 2 ≤ l.length
    · have s1 := splitN_lt hm
      have s2 := splitN_pos l.length
      have s3 := splitM_in hm (by omega)
      have c1 : ((l.length : Int) < 2) = False := eq_false (by omega)
      by_cases hj : i < splitN l.length
      · have c2 : ((i : Int) < ((splitN l.length : Nat) : Int)) = True := eq_true (by omega)
        have htl : (l.take (splitN l.length)).length = splitN l.length := by rw [List.length_take]; omega
        simp only [go_sem, ↓reduceIte, reduceCtorEq, Nat.reduceAdd, Nat.reduceMul, Nat.reduceEqDiff, Nat.reduceSub, Nat.reduceLT, Nat.reduceLeDiff, Nat.reduceAnd, Nat.reduceShiftRight, Nat.reduceBEq, Nat.reduceBNe, Nat.reduceBneDiff, Nat.reduceBeqDiff, Int.reduceToNat, Int.reduceLE, Int.reduceLT, Int.reduceEq, c1, s3, c2]
        refine ⟨by omega, ⟨by omega, ⟨by omega, by omega⟩, fun x hx => h2 x (List.mem_of_mem_take hx), by omega⟩, fun xs hxs => ⟨⟨by omega, by omega⟩, ⟨by omega, fun x hx => h2 x (List.mem_of_mem_drop hx)⟩, ⟨by omega, by omega⟩, xs ++ [rootM (l.drop (splitN l.length))], ?_, ?_, ?_⟩⟩
        · rw [List.length_append, List.length_singleton]; omega
        · rw [List.length_append]; rfl
        · rw [List.map_append]; rfl
      · have c2 : ((i : Int) < ((splitN l.length : Nat) : Int)) = False := eq_false (by omega)
        have w3 : IntKind.i64.wrap ((i : Int) - ((splitN l.length : Nat) : Int)) = ((i - splitN l.length : Nat) : Int) := by rw [wrap64] <;> omega
        have htl : (l.take (splitN l.length)).length = splitN l.length := by rw [List.length_take]; omega
        simp only [go_sem, ↓reduceIte, reduceCtorEq, Nat.reduceAdd, Nat.reduceMul, Nat.reduceEqDiff, Nat.reduceSub, Nat.reduceLT, Nat.reduceLeDiff, Nat.reduceAnd, Nat.reduceShiftRight, Nat.reduceBEq, Nat.reduceBNe, Nat.reduceBneDiff, Nat.reduceBeqDiff, Int.reduceToNat, Int.reduceLE, Int.reduceLT, Int.reduceEq, c1, s3, c2, w3]
        refine ⟨⟨by omega, by omega⟩, ⟨by omega, ⟨by omega, by omega⟩, fun x hx => h2 x (List.mem_of_mem_drop hx), by omega⟩, fun xs hxs => ⟨by omega, ⟨by omega, fun x hx => h2 x (List.mem_of_mem_take hx)⟩, ⟨by omega, by omega⟩, xs ++ [rootM (l.take (splitN l.length))], ?_, ?_, ?_⟩⟩
        · rw [List.length_append, List.length_singleton]; omega
        · rw [List.length_append]; rfl
        · rw [List.map_append]; rfl
    · have c1 : ((l.length : Int) < 2) = True := eq_true (by omega)
      simp only [go_sem, ↓reduceIte, reduceCtorEq, Nat.reduceAdd, Nat.reduceMul, Nat.reduceEqDiff, Nat.reduceSub, Nat.reduceLT, Nat.reduceLeDiff, Nat.reduceAnd, Nat.reduceShiftRight, Nat.reduceBEq, Nat.reduceBNe, Nat.reduceBneDiff, Nat.reduceBeqDiff, Int.reduceToNat, Int.reduceLE, Int.reduceLT, Int.reduceEq, c1]
      exact ⟨[], Nat.zero_le _, rfl, rfl⟩
abbrev RPath : FR where
  md := []
  m args rin := match args, rin with
    | [e1, e2], [] => match (eList cStr).dec e1, (eInt .i64).dec e2 with
      | some l, some i => some ((1 ≤ l.length ∧ l.length ≤ 256) ∧ (∀ x ∈ l, x.size ≤ 40) ∧ (0 ≤ i ∧ i < l.length), fun k => ∀ xs : List Digest, xs.length ≤ l.length → k (oL 0 xs) [some (oR cDigest xs)])
      | _, _ => none
    | _, _ => none
attribute [go_sem] RPath
theorem ok_spec_l3Path : RPath.ok Tryz.prog 19 := by
  intro args rin pr W hm hp k hk
  simp only [RPath] at hm
  split at hm
  · split at hm
    · rename_i e1 e2 _ _ l i h1 h2
      cases hm
      obtain ⟨t, h6, h7⟩ := f_l3Path (l.length + 1) l i ⟨by omega, hp⟩
      exact ⟨_, _, h7.weaken (.cons (CE.ok _ _ _ h1) (.cons (CE.ok _ _ _ h2) .nil)), hk t h6⟩
    · cases hm
  · cases hm

def H_spec_l3Rd_bent : Hint := { fs := [(50, ODigests)], kp := [(0, [0, 1]), (1, [0, 1]), (2, [0, 5]), (3, [0, 5, 6]), (4, [0, 5]), (5, [0, 5, 6]), (6, [5]), (7, [0, 5, 6]), (8, [0, 5]), (9, [5])], an := [(8, [0, 0, 2, 6, 14, 30, 62, 126, 0, 256, 1022, 0, 2048, 6144, 14336, 30720, 63488, 129024, 262142, 524287, 1048575])], rs := [(16, RPick), (51, RDigest)] }
attribute [go_sem] H_spec_l3Rd_bent
theorem ok_H_spec_l3Rd_bent : H_spec_l3Rd_bent.ok Tryz.prog := AllOk.okR (.cons ok_spec_l3Digests .nil) (.cons ok_spec_l1Rd_pick (.cons ok_spec_l1Rd_digest .nil)) mix
theorem f_bent (b : List UInt8) (p : Int) (l : List Digest) (h0 : 0 ≤ p) (h1 : p + 60 ≤ rdM) (hl : l.length ≤ 1000) : ∃ t : List Digest × Int, (p ≤ t.2 ∧ t.2 ≤ p + 60 ∧ t.1.length ≤ l.length + 1) ∧ VFun Tryz.prog 22 [rdP, (eList cDigest).enc l] [some (bxP 1), some (bxP 2), some (rdR b p)] ((eList cDigest).enc t.1) [some (bxP 1), some (bxP 2), some (rdR b t.2)] := by
  unfold rdM at h1
  refine VFun_rel (n := 71) (rs := [.tmp 4]) Tryz.func22 rfl rfl rfl rfl H_spec_l3Rd_bent ok_H_spec_l3Rd_bent  (rin := [bxP 1, bxP 2, rdR b p]) (T := List Digest × Int) (eList cDigest) (fun t => t.1) (fun t => [some (bxP 1), some (bxP 2), some (rdR b t.2)]) (fun t => p ≤ t.2 ∧ t.2 ≤ p + 60 ∧ t.1.length ≤ l.length + 1) (Nat.le_of_ble_eq_true rfl) (by kernel_rfl) ?_
  simp only [go_sem, ↓reduceIte, reduceCtorEq, Nat.reduceAdd, Nat.reduceMul, Nat.reduceEqDiff, Nat.reduceSub, Nat.reduceLT, Nat.reduceLeDiff, Nat.reduceAnd, Nat.reduceShiftRight, Nat.reduceBEq, Nat.reduceBNe, Nat.reduceBneDiff, Nat.reduceBeqDiff, Int.reduceToNat, Int.reduceLE, Int.reduceLT, Int.reduceEq, List.append_nil, Nat.add_zero]
  refine ⟨by omega, ⟨by omega, by omega⟩, fun v q g => ite_intro (fun c => ⟨⟨by omega, by omega⟩, fun d q2 g2 => ⟨⟨by omega, by omega⟩, (l ++ [d], q2), ⟨by dsimp only; omega, by dsimp only; omega, by simp⟩, rfl, rfl⟩⟩) fun c => ?_⟩
  by_cases hl0 : 0 < (l.length : Int)
  · refine ite_intro (fun c1 => ite_intro (fun _ => ?_) fun c2 => absurd hl0 c2) fun c1 => ite_intro (fun c3 => ite_intro (fun _ => ?_) fun c4 => absurd hl0 c4) fun c3 => ?_
    · have w1 : IntKind.i64.wrap ((l.length : Int) - 1) = ((l.length - 1 : Nat) : Int) := by rw [wrap64] <;> omega
      rw [w1, Int.toNat_natCast]
      exact ⟨⟨by omega, by omega⟩, (l.take (l.length - 1), q), ⟨by dsimp only; omega, by dsimp only; omega, by rw [List.length_take]; omega⟩, rfl, rfl⟩
    · refine ⟨⟨by omega, by omega⟩, fun k q2 g2 => ⟨⟨by omega, by omega⟩, fun d q3 g3 => ?_⟩⟩
      obtain ⟨k, rfl⟩ := Int.eq_ofNat_of_zero_le g2.2.2.1
      have hk : k < l.length := by omega
      obtain ⟨x, hx⟩ : ∃ r, l[k]? = some r := ⟨_, List.getElem?_eq_getElem hk⟩
      have hs : (l.map cDigest.enc).set k [.v (.int .u64 d.1.toNat), .v (.int .u64 d.2.1.toNat), .v (.int .u64 d.2.2.1.toNat), .v (.int .u64 d.2.2.2.toNat)] = (l.set k d).map cDigest.enc := by rw [List.map_set]; rfl
      simp only [go_sem, ↓reduceIte, reduceCtorEq, Nat.reduceAdd, Nat.reduceMul, Nat.reduceEqDiff, Nat.reduceSub, Nat.reduceLT, Nat.reduceLeDiff, Nat.reduceAnd, Nat.reduceShiftRight, Nat.reduceBEq, Nat.reduceBNe, Nat.reduceBneDiff, Nat.reduceBeqDiff, Int.reduceToNat, Int.reduceLE, Int.reduceLT, Int.reduceEq, Int.toNat_natCast, hx, hs, List.length_set, List.append_nil, Nat.add_zero, eq_true hk]
      exact ⟨(l.set k d, q3), ⟨by dsimp only; omega, by dsimp only; omega, by rw [List.length_set]; omega⟩, rfl, rfl⟩
    · exact ⟨(l, q), ⟨by dsimp only; omega, by dsimp only; omega, by dsimp only; omega⟩, rfl, rfl⟩
  · refine ite_intro (fun c1 => ite_intro (fun c2 => absurd c2 hl0) fun c2 => ite_intro (fun c3 => ite_intro (fun c4 => absurd c4 hl0) fun _ => ?_) fun c3 => ?_) fun c1 => ite_intro (fun c3 => ite_intro (fun c4 => absurd c4 hl0) fun _ => ?_) fun c3 => ?_
    all_goals exact ⟨(l, q), ⟨by dsimp only; omega, by dsimp only; omega, by dsimp only; omega⟩, rfl, rfl⟩
abbrev RBent : FR := .rm1 (eList cDigest) (eList cDigest).enc (fun _ => 60) (fun l => l.length ≤ 1000) (fun l t => t.length ≤ l.length + 1)
attribute [go_sem] RBent
theorem ok_spec_l3Rd_bent : RBent.ok Tryz.prog 22 := FR.rm1_ok fun b p l h0 h1 h2 => f_bent b p l h0 h1 h2

/-- What is drawn by a code, said of its encoding. -/
abbrev FR.drE {R : Type} (r : R → E) (post : R → Prop) : FR where
  md := []
  m args rin := match args, rin with
    | [e1], [] => match (eList cU8).dec e1 with
      | some b => some (b.length ≤ 1048576, fun k => ∀ v, post v → k (r v) [])
      | none => none
    | _, _ => none
theorem FR.drE_ok {P : Program} {g : FuncId} {R : Type} {r : R → E} {post : R → Prop} (h : ∀ (b : List UInt8), b.length ≤ 1048576 → ∃ v : R, post v ∧ VFun P g [(eList cU8).enc b] [] (r v) []) : (FR.drE r post).ok P g := by
  intro args rin pre W hm hp k hk
  simp only [FR.drE] at hm
  split at hm
  · split at hm
    · rename_i h1
      cases hm
      obtain ⟨v, h3, h4⟩ := h _ hp
      exact ⟨_, _, h4.weaken (.cons (CE.ok _ _ _ h1) .nil), hk _ h3⟩
    · cases hm
  · cases hm
abbrev Row4 := Int × Int × ByteArray × List Digest
abbrev row4E (t : Row4) : E := .t [.o (.c (.v (.int .i64 t.1))), .o (.c (.v (.int .i64 t.2.1))), .o (.c (.v (.string t.2.2.1))), .o (.c (.s (t.2.2.2.map cDigest.enc)))]
attribute [go_sem] row4E

end Go.Proofs.YtcgkhljolflenaaGreatW.V

