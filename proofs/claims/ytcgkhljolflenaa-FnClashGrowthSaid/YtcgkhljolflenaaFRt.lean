/- What a law looks up in its code. No condition but each theorem's own. -/
import Derived.Test.YtcgkhljolflenaaFR
namespace Go.Proofs.YtcgkhljolflenaaW.V
open Go Go.Proofs
set_option linter.unusedSimpArgs false
set_option linter.unusedVariables false
set_option maxRecDepth 8000
set_option maxHeartbeats 4000000


theorem wrapU8_any (t : Int) : ∃ y : UInt8, IntKind.u8.wrap t = (y.toNat : Int) := by
  refine ⟨UInt8.ofNat (IntKind.u8.wrap t).toNat, ?_⟩
  simp [IntKind.wrap, IntKind.bits, IntKind.signed]; omega
abbrev eByte : CE UInt8 := CE.one cU8 cU8_n
attribute [go_sem] eByte

def H_laws_at : Hint := { fs := [], kp := [(0, [0, 1]), (1, [0, 1]), (2, [1]), (3, [0, 1]), (4, [0, 1]), (5, [0, 1])], an := [(5, [0, 0, 0, 4, 14, 31, 63, 127, 0, 0, 512, 1536, 0, 4096, 15872, 32512, 65280, 131071, 0, 262144, 1048575, 2097151])] }
attribute [go_sem] H_laws_at
theorem ok_H_laws_at : H_laws_at.ok Try.prog := AllOk.okR .nil .nil mix
theorem f_at (b : List UInt8) (i : Int) (h : b.length ≤ 1048576) (h0 : 0 ≤ i) (h1 : i ≤ 1000) : ∃ t : UInt8, True ∧ VFun Try.prog 23 [(eList cU8).enc b, (eInt .i64).enc i] [] (eByte.enc t) [] := by
  refine VFun_rel (n := 40) (rs := [.tmp 4]) Try.func23 rfl rfl rfl rfl H_laws_at ok_H_laws_at  (rin := []) (T := UInt8) eByte (fun t => t) (fun t => []) (fun t => True) (Nat.le_of_ble_eq_true rfl) (by kernel_rfl) ?_
  obtain ⟨i, rfl⟩ := Int.eq_ofNat_of_zero_le h0
  have fin : ∀ t : Int, ∃ y : UInt8, cU8.dec [C.v (.int .u8 (IntKind.u8.wrap t))] = some y := fun t => by
    obtain ⟨y, hy⟩ := wrapU8_any t
    exact ⟨y, by rw [hy]; exact cU8_dec y⟩
  by_cases hb : b.length = 0
  · have hb' : ((b.length : Int) = 0) = True := eq_true (by omega)
    simp only [go_sem, ↓reduceIte, reduceCtorEq, Nat.reduceAdd, Nat.reduceMul, Nat.reduceEqDiff, Nat.reduceSub, Nat.reduceLT, Nat.reduceLeDiff, Nat.reduceAnd, Nat.reduceShiftRight, Nat.reduceBEq, Nat.reduceBNe, Nat.reduceBneDiff, Nat.reduceBeqDiff, Int.reduceToNat, Int.reduceLE, Int.reduceLT, Int.reduceEq, hb']
    exact fin _
  have hb' : ((b.length : Int) = 0) = False := eq_false (by omega)
  by_cases hi : i < b.length
  · have hi' : ((i : Int) < (b.length : Int)) = True := eq_true (by omega)
    have hx : b[i]? = some b[i] := List.getElem?_eq_getElem hi
    simp only [go_sem, ↓reduceIte, reduceCtorEq, Nat.reduceAdd, Nat.reduceMul, Nat.reduceEqDiff, Nat.reduceSub, Nat.reduceLT, Nat.reduceLeDiff, Nat.reduceAnd, Nat.reduceShiftRight, Nat.reduceBEq, Nat.reduceBNe, Nat.reduceBneDiff, Nat.reduceBeqDiff, Int.reduceToNat, Int.reduceLE, Int.reduceLT, Int.reduceEq, hb', hi', hx]
    exact ⟨_, rfl⟩
  · have hi' : ((i : Int) < (b.length : Int)) = False := eq_false (by omega)
    have i1 : i % b.length < b.length := Nat.mod_lt _ (by omega)
    have i2 : (i * 5 + 1) % b.length < b.length := Nat.mod_lt _ (by omega)
    have hx1 : b[i % b.length]? = some b[i % b.length] := List.getElem?_eq_getElem i1
    have hx2 : b[(i * 5 + 1) % b.length]? = some b[(i * 5 + 1) % b.length] := List.getElem?_eq_getElem i2
    have t1 : (i : Int).tmod (b.length : Int) = ((i % b.length : Nat) : Int) := by rw [Int.tmod_eq_emod_of_nonneg (by omega)]; simp
    have t2 : ((i * 5 + 1 : Nat) : Int).tmod (b.length : Int) = (((i * 5 + 1) % b.length : Nat) : Int) := by rw [Int.tmod_eq_emod_of_nonneg (by omega)]; simp
    have w1 : IntKind.i64.wrap ((i : Int) * 5) = ((i * 5 : Nat) : Int) := by rw [wrap64] <;> omega
    have w2 : IntKind.i64.wrap (((i * 5 : Nat) : Int) + 1) = ((i * 5 + 1 : Nat) : Int) := by rw [wrap64] <;> omega
    simp only [go_sem, ↓reduceIte, reduceCtorEq, Nat.reduceAdd, Nat.reduceMul, Nat.reduceEqDiff, Nat.reduceSub, Nat.reduceLT, Nat.reduceLeDiff, Nat.reduceAnd, Nat.reduceShiftRight, Nat.reduceBEq, Nat.reduceBNe, Nat.reduceBneDiff, Nat.reduceBeqDiff, Int.reduceToNat, Int.reduceLE, Int.reduceLT, Int.reduceEq, hb', hi', hx1, hx2, t1, t2, w1, w2]
    exact fin _
abbrev RAt : FR where
  md := []
  m args rin := match args, rin with
    | [e1, e2], [] => match (eList cU8).dec e1, (eInt .i64).dec e2 with
      | some b, some i => some (b.length ≤ 1048576 ∧ 0 ≤ i ∧ i ≤ 1000, fun k => ∀ y : UInt8, k (eByte.enc y) [])
      | _, _ => none
    | _, _ => none
attribute [go_sem] RAt
theorem okR_at {P : Program} {g : FuncId} (h : ∀ (b : List UInt8) (i : Int), b.length ≤ 1048576 → 0 ≤ i → i ≤ 1000 → ∃ t : UInt8, True ∧ VFun P g [(eList cU8).enc b, (eInt .i64).enc i] [] (eByte.enc t) []) : RAt.ok P g := by
  intro args rin pr W hm hp k hk
  simp only [RAt] at hm
  split at hm
  · split at hm
    · rename_i e1 e2 _ _ s n h1 h2
      cases hm
      obtain ⟨t, _, h7⟩ := h s n hp.1 hp.2.1 hp.2.2
      exact ⟨_, _, h7.weaken (.cons (CE.ok _ _ _ h1) (.cons (CE.ok _ _ _ h2) .nil)), hk t⟩
    · cases hm
  · cases hm
theorem ok_laws_at : RAt.ok Try.prog 23 := okR_at fun b i h h0 h1 => f_at b i h h0 h1

def H_laws_ifInt : Hint := { fs := [], kp := [(0, [0, 1]), (1, [0, 1]), (2, [1]), (3, [])], an := [] }
attribute [go_sem] H_laws_ifInt
theorem ok_H_laws_ifInt : H_laws_ifInt.ok Try.prog := AllOk.okR .nil .nil mix
theorem f_ifInt (b : Bool) (n : Int) : VFun Try.prog 10 [eBool.enc b, (eInt .i64).enc n] [] ((eInt .i64).enc (if b then n else 0)) [] := by
  refine VFun_pure (n := 7) (rs := [.tmp 4]) Try.func10 rfl rfl rfl rfl H_laws_ifInt ok_H_laws_ifInt _ _ (Nat.le_of_ble_eq_true rfl) (by kernel_rfl) ?_
  simp only [go_sem, ↓reduceIte, reduceCtorEq, Nat.reduceAdd, Nat.reduceMul, Nat.reduceEqDiff, Nat.reduceSub, Nat.reduceLT, Nat.reduceLeDiff, Nat.reduceAnd, Nat.reduceShiftRight, Nat.reduceBEq, Nat.reduceBNe, Nat.reduceBneDiff, Nat.reduceBeqDiff, Int.reduceToNat, Int.reduceLE, Int.reduceLT, Int.reduceEq]
  cases b <;> rfl
abbrev MIf : FM := .f2 eBool (eInt .i64) (eInt .i64).enc (fun b n => if b then n else 0) (fun _ _ => True)
attribute [go_sem] MIf
theorem ok_laws_ifInt : MIf.ok Try.prog 10 := FM.f2_ok fun b n _ => f_ifInt b n

end Go.Proofs.YtcgkhljolflenaaW.V

