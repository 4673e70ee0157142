/- The draws of paths for the laws of clashes. No condition but each theorem's own. -/
import Derived.Test.YtcgkhljolflenaaFQD
namespace Go.Proofs.YtcgkhljolflenaaW.V
open Go Go.Proofs
set_option linter.unusedSimpArgs false
set_option linter.unusedVariables false
set_option maxRecDepth 8000
set_option maxHeartbeats 4000000

set_option synthInstance.maxSize 1000

namespace PV

def H_spec_l3Path : Hint := { fs := [(80, MSplit), (81, MRoot)], kp := [(0, [0, 1]), (1, [0, 1]), (2, []), (3, [0, 1]), (4, [0, 1, 5]), (5, [0, 1, 5]), (6, [0, 1, 5])], an := [(5, [0, 0, 3, 0, 15, 0, 0, 96, 255, 511, 1023, 2047]), (6, [0, 0, 3, 0, 0, 24, 63, 0, 0, 384, 1023, 2047, 4095, 8191])], rs := [(34, RPath)], own := false }
attribute [go_sem] H_spec_l3Path
theorem ok_H_spec_l3Path : H_spec_l3Path.ok Try.prog := AllOk.okR (.cons ok_spec_TreeSplit (.cons ok_l2Root .nil)) (.cons ok_spec_l3Path .nil) mix
theorem f_l3PathV (l : List ByteArray) (i : Int) (h : (1 ≤ l.length ∧ l.length ≤ 256) ∧ (∀ x ∈ l, x.size ≤ 40) ∧ (0 ≤ i ∧ i < l.length)) : ∃ xs : List Digest, xs.length ≤ l.length ∧ VFun Try.prog 34 [(eList cStr).enc l, (eInt .i64).enc i] [] ((eList cDigest).enc xs) [] := by
  obtain ⟨h1, h2, h3⟩ := h
  obtain ⟨i, rfl⟩ := Int.eq_ofNat_of_zero_le h3.1
  refine VFun_rel (n := 40) (rs := [.tmp 4]) Try.func34 rfl rfl rfl rfl H_spec_l3Path ok_H_spec_l3Path  (rin := []) (T := List Digest) (eList cDigest) (fun xs => xs) (fun xs => []) (fun xs => xs.length ≤ l.length) (Nat.le_of_ble_eq_true rfl) (by kernel_rfl) ?_
  by_cases hm : 2 ≤ l.length
  · have s1 := splitN_lt hm
    have s2 := splitN_pos l.length
    have s3 := splitM_in hm (by omega)
    have c1 : ((l.length : Int) < 2) = False := eq_false (by omega)
    have htl : (l.take (splitN l.length)).length = splitN l.length := by rw [List.length_take]; omega
    by_cases hj : i < splitN l.length
    · have c2 : ((i : Int) < ((splitN l.length : Nat) : Int)) = True := eq_true (by omega)
      simp only [go_sem, ↓reduceIte, reduceCtorEq, Nat.reduceAdd, Nat.reduceMul, Nat.reduceEqDiff, Nat.reduceSub, Nat.reduceLT, Nat.reduceLeDiff, Nat.reduceAnd, Nat.reduceShiftRight, Nat.reduceBEq, Nat.reduceBNe, Nat.reduceBneDiff, Nat.reduceBeqDiff, Int.reduceToNat, Int.reduceLE, Int.reduceLT, Int.reduceEq, c1, s3, c2]
      exact ⟨by omega, ⟨⟨by omega, by omega⟩, fun x hx => h2 x (List.mem_of_mem_take hx), by omega⟩, fun xs hxs => ⟨⟨by omega, by omega⟩, ⟨by omega, fun x hx => h2 x (List.mem_of_mem_drop hx)⟩, ⟨by omega, by omega⟩, xs ++ [rootM (l.drop (splitN l.length))], by rw [List.length_append, List.length_singleton]; omega, rfl⟩⟩
    · have c2 : ((i : Int) < ((splitN l.length : Nat) : Int)) = False := eq_false (by omega)
      have w3 : IntKind.i64.wrap ((i : Int) - ((splitN l.length : Nat) : Int)) = ((i - splitN l.length : Nat) : Int) := by rw [wrap64] <;> omega
      simp only [go_sem, ↓reduceIte, reduceCtorEq, Nat.reduceAdd, Nat.reduceMul, Nat.reduceEqDiff, Nat.reduceSub, Nat.reduceLT, Nat.reduceLeDiff, Nat.reduceAnd, Nat.reduceShiftRight, Nat.reduceBEq, Nat.reduceBNe, Nat.reduceBneDiff, Nat.reduceBeqDiff, Int.reduceToNat, Int.reduceLE, Int.reduceLT, Int.reduceEq, c1, s3, c2, w3]
      exact ⟨⟨by omega, by omega⟩, ⟨⟨by omega, by omega⟩, fun x hx => h2 x (List.mem_of_mem_drop hx), by omega⟩, fun xs hxs => ⟨by omega, ⟨by omega, fun x hx => h2 x (List.mem_of_mem_take hx)⟩, ⟨by omega, by omega⟩, xs ++ [rootM (l.take (splitN l.length))], by rw [List.length_append, List.length_singleton]; omega, rfl⟩⟩
  · have c1 : ((l.length : Int) < 2) = True := eq_true (by omega)
    simp only [go_sem, ↓reduceIte, reduceCtorEq, Nat.reduceAdd, Nat.reduceMul, Nat.reduceEqDiff, Nat.reduceSub, Nat.reduceLT, Nat.reduceLeDiff, Nat.reduceAnd, Nat.reduceShiftRight, Nat.reduceBEq, Nat.reduceBNe, Nat.reduceBneDiff, Nat.reduceBeqDiff, Int.reduceToNat, Int.reduceLE, Int.reduceLT, Int.reduceEq, c1]
    exact ⟨[], Nat.zero_le _, rfl⟩

end PV
abbrev RPathV : FR where
  md := []
  m args rin := match args, rin with
    | [e1, e2], [] => match (eList cStr).dec e1, (eInt .i64).dec e2 with
      | some l, some i => some ((1 ≤ l.length ∧ l.length ≤ 256) ∧ (∀ x ∈ l, x.size ≤ 40) ∧ (0 ≤ i ∧ i < l.length), fun k => ∀ xs : List Digest, xs.length ≤ l.length → k ((eList cDigest).enc xs) [])
      | _, _ => none
    | _, _ => none
attribute [go_sem] RPathV
theorem ok_l3PathV : RPathV.ok Try.prog 34 := by
  intro args rin pr W hm hp k hk
  simp only [RPathV] at hm
  split at hm
  · split at hm
    · rename_i e1 e2 _ _ l i h1 h2
      cases hm
      obtain ⟨t, h6, h7⟩ := PV.f_l3PathV l i hp
      exact ⟨_, _, h7.weaken (.cons (CE.ok _ _ _ h1) (.cons (CE.ok _ _ _ h2) .nil)), hk t h6⟩
    · cases hm
  · cases hm

def H_spec_DrawClashRow : Hint := { fs := [(30, Ml4Open)], kp := [(0, [0]), (1, [0]), (2, [6]), (3, [6, 7]), (4, [6, 7, 9]), (5, [6, 7, 9, 10]), (6, [7, 9, 10]), (7, [7, 9, 10])], rs := [(31, RGrown), (32, RPick), (33, RBent), (34, RPathV)], an := [(4, [0, 1, 3, 7, 0, 0, 48, 127, 255]), (6, [0, 1, 0, 4, 0, 0, 48, 112, 0, 3, 527, 1791, 4095]), (7, [0, 1, 0, 0, 0, 24, 56, 0, 3, 263, 895, 2047])] }
attribute [go_sem] H_spec_DrawClashRow
theorem ok_H_spec_DrawClashRow : H_spec_DrawClashRow.ok Try.prog := AllOk.okR (.cons ok_spec_l4Open .nil) (.cons ok_spec_l3Rd_grown (.cons ok_spec_l1Rd_pick (.cons ok_spec_l3Rd_bent (.cons ok_l3PathV .nil)))) mix
theorem f_DrawClashRow (b : List UInt8) (h : b.length ≤ 1048576) : ∃ t : Row4, (t.2.2.1.size ≤ 40 ∧ t.2.2.2.length ≤ 1000) ∧ VFun Try.prog 7 [(eList cU8).enc b] [] (row4E t) [] := by
  refine VFun_relE (n := 71) (rs := [.tmp 2, .tmp 3, .tmp 4, .tmp 5]) Try.func7 rfl rfl rfl rfl H_spec_DrawClashRow ok_H_spec_DrawClashRow  (rin := []) (T := Row4) (fun t => row4E t) (fun t => []) (fun t => t.2.2.1.size ≤ 40 ∧ t.2.2.2.length ≤ 1000) (Nat.le_of_ble_eq_true rfl) (by kernel_rfl) ?_
  simp only [go_sem, ↓reduceIte, reduceCtorEq, Nat.reduceAdd, Nat.reduceMul, Nat.reduceEqDiff, Nat.reduceSub, Nat.reduceLT, Nat.reduceLeDiff, Nat.reduceAnd, Nat.reduceShiftRight, Nat.reduceBEq, Nat.reduceBNe, Nat.reduceBneDiff, Nat.reduceBeqDiff, Int.reduceToNat, Int.reduceLE, Int.reduceLT, Int.reduceEq]
  refine ⟨h, by omega, ?_⟩
  rintro ⟨l, m⟩ q ⟨g1, g2, g3, g4, g5, g6, g7⟩
  dsimp only at g3 g4 g5 g6 g7 ⊢
  refine ⟨⟨by omega, by omega⟩, fun i q1 k1 => ⟨⟨⟨by omega, by omega⟩, g5, by omega, by omega⟩, fun xs hxs => ⟨⟨by omega, by omega, by omega⟩, fun ps q2 k2 => ⟨⟨by omega, by omega⟩, fun v3 q3 k3 => ?_⟩⟩⟩⟩
  obtain ⟨i, rfl⟩ := Int.eq_ofNat_of_zero_le k1.2.2.1
  have hil : i < l.length := by omega
  obtain ⟨x, hx⟩ : ∃ r, l[i]? = some r := ⟨_, List.getElem?_eq_getElem hil⟩
  have hs := g5 x (List.mem_of_getElem? hx)
  simp only [go_sem, ↓reduceIte, reduceCtorEq, Nat.reduceAdd, Nat.reduceMul, Nat.reduceEqDiff, Nat.reduceSub, Nat.reduceLT, Nat.reduceLeDiff, Nat.reduceAnd, Nat.reduceShiftRight, Nat.reduceBEq, Nat.reduceBNe, Nat.reduceBneDiff, Nat.reduceBeqDiff, Int.reduceToNat, Int.reduceLE, Int.reduceLT, Int.reduceEq, Int.toNat_natCast, hx, eq_true hil]
  exact ite_intro (fun _ => ⟨((l.length : Int), (l.length : Int), x, ps), ⟨hs, by dsimp only; omega⟩, rfl⟩) fun _ => ⟨((l.length : Int), (i : Int), x, ps), ⟨hs, by dsimp only; omega⟩, rfl⟩
abbrev RDrawClashRow : FR := .drE row4E (fun t => t.2.2.1.size ≤ 40 ∧ t.2.2.2.length ≤ 1000)
attribute [go_sem] RDrawClashRow
theorem ok_spec_DrawClashRow : RDrawClashRow.ok Try.prog 7 := FR.drE_ok fun b h => f_DrawClashRow b h

end Go.Proofs.YtcgkhljolflenaaW.V

