/- Functions: logs and messages as the law handles them. No condition but each theorem's own. -/
import Derived.Test.YtfccplibbdnkpaaFGD
namespace Go.Proofs.YtfccplibbdnkpaaW.V
open Go Go.Proofs
set_option linter.unusedSimpArgs false
set_option linter.unusedVariables false
set_option maxRecDepth 8000
set_option maxHeartbeats 4000000

set_option synthInstance.maxSize 1000

abbrev oLog (l : Log) : E := .x (.a [.h (0, 0) 0 l.length l.length])
attribute [go_sem] oLog
def H_laws_toLog : Hint := { fs := [(31, O_toStringS)], kp := [(0, [0]), (1, [1, 2]), (2, [1, 2, 3]), (3, [2, 3])], an := [], own := true }
attribute [go_sem] H_laws_toLog
theorem ok_H_laws_toLog : H_laws_toLog.ok Try.prog := AllOk.okR (.cons ok_laws_toStringS .nil) .nil mix
theorem o_toLog (l : Log) (h : l.length ≤ 1048576) : VFun Try.prog 9 [(CE.st cLog).enc l] [] (oLog l) [some (oR cStr l)] := by
  refine VFun_own (rin := []) (n := 9) (rs := [.cell 2 39]) Try.func9 rfl rfl rfl rfl H_laws_toLog ok_H_laws_toLog (Nat.le_of_ble_eq_true rfl) (by kernel_rfl) ?_
  simp only [go_sem, ↓reduceIte, reduceCtorEq, Nat.reduceAdd, Nat.reduceMul, Nat.reduceEqDiff, Nat.reduceSub, Nat.reduceLT, Nat.reduceLeDiff, Nat.reduceAnd, Nat.reduceShiftRight, Nat.reduceBEq, Nat.reduceBNe, Nat.reduceBneDiff, Nat.reduceBeqDiff, Int.reduceToNat, Int.reduceLE, Int.reduceLT, Int.reduceEq]
  exact h
abbrev OToLog : FM := .g1 (CE.st cLog) (fun l => (oLog l, [some (oR cStr l)])) (fun l => l.length ≤ 1048576)
attribute [go_sem] OToLog
theorem ok_laws_toLog : OToLog.ok Try.prog 9 := FM.g1_ok fun l h => o_toLog l h

def H_laws_toMessage : Hint := { fs := [(31, O_toStringS), (32, MToDigest), (33, OToDigestS)], kp := [(0, [0]), (1, [1, 2]), (2, [1, 2, 3]), (3, [1, 2, 3]), (4, [1, 2, 3]), (5, [1, 2, 3]), (6, [1, 2, 3]), (7, [1, 2, 3]), (8, [1, 2, 3]), (9, [1, 2, 3]), (10, [2, 3])], an := [], own := true }
attribute [go_sem] H_laws_toMessage
theorem ok_H_laws_toMessage : H_laws_toMessage.ok Try.prog := AllOk.okR (.cons ok_laws_toStringS (.cons ok_laws_toDigest (.cons ok_laws_toDigestS .nil))) .nil mix
theorem o_toMessage (m : Msg) (h : m.2.2.2.2.2.2.1.length ≤ 1048576 ∧ m.2.2.2.2.2.2.2.length ≤ 1048576) : VFun Try.prog 10 [(CE.st cMsg).enc m] [] (oMsg m) (rMsg m) := by
  refine VFun_own (rin := []) (n := 32) (rs := [.cell 2 36]) Try.func10 rfl rfl rfl rfl H_laws_toMessage ok_H_laws_toMessage (Nat.le_of_ble_eq_true rfl) (by kernel_rfl) ?_
  simp only [go_sem, ↓reduceIte, reduceCtorEq, Nat.reduceAdd, Nat.reduceMul, Nat.reduceEqDiff, Nat.reduceSub, Nat.reduceLT, Nat.reduceLeDiff, Nat.reduceAnd, Nat.reduceShiftRight, Nat.reduceBEq, Nat.reduceBNe, Nat.reduceBneDiff, Nat.reduceBeqDiff, Int.reduceToNat, Int.reduceLE, Int.reduceLT, Int.reduceEq]
  exact h
abbrev OToMsg : FM := .g1 (CE.st cMsg) (fun m => (oMsg m, rMsg m)) (fun m => m.2.2.2.2.2.2.1.length ≤ 1048576 ∧ m.2.2.2.2.2.2.2.length ≤ 1048576)
attribute [go_sem] OToMsg
theorem ok_laws_toMessage : OToMsg.ok Try.prog 10 := FM.g1_ok fun l h => o_toMessage l h

def H_laws_eqLog : Hint := { fs := [(41, MEqStringS)], kp := [(0, [0, 1]), (1, [2, 3]), (2, []), (3, [])], an := [] }
attribute [go_sem] H_laws_eqLog
theorem ok_H_laws_eqLog : H_laws_eqLog.ok Try.prog := AllOk.okR (.cons ok_laws_eqStringS .nil) .nil mix
theorem f_eqLog (x : Log) (h : x.length ≤ maxLen) : VFun Try.prog 13 [(CE.st cLog).enc x, (CE.st cLog).enc x] [] (eBool.enc true) [] := by
  refine VFun_pure (n := 11) (rs := [.tmp 4]) Try.func13 rfl rfl rfl rfl H_laws_eqLog ok_H_laws_eqLog _ _ (Nat.le_of_ble_eq_true rfl) (by kernel_rfl) ?_
  simp only [go_sem, ↓reduceIte, reduceCtorEq, Nat.reduceAdd, Nat.reduceMul, Nat.reduceEqDiff, Nat.reduceSub, Nat.reduceLT, Nat.reduceLeDiff, Nat.reduceAnd, Nat.reduceShiftRight, Nat.reduceBEq, Nat.reduceBNe, Nat.reduceBneDiff, Nat.reduceBeqDiff, Int.reduceToNat, Int.reduceLE, Int.reduceLT, Int.reduceEq, decide_true]
  exact h
abbrev MEqLog : FM := .f2 (CE.st cLog) (CE.st cLog) eBool.enc (fun _ _ => true) (fun x y => x = y ∧ x.length ≤ maxLen)
attribute [go_sem] MEqLog
theorem ok_laws_eqLog : MEqLog.ok Try.prog 13 := FM.f2_ok fun x y h => by rw [← h.1]; exact f_eqLog x h.2

def H_laws_eqMessage : Hint := { fs := [(39, M240), (40, MEq_digests), (41, MEqStringS)], kp := [(0, [0, 1]), (1, [2, 3]), (2, []), (3, [2, 3]), (4, []), (5, [2, 3]), (6, []), (7, [2, 3]), (8, []), (9, [2, 3]), (10, []), (11, [2, 3]), (12, []), (13, [2, 3]), (14, []), (15, [2, 3]), (16, []), (17, [])], an := [] }
attribute [go_sem] H_laws_eqMessage
theorem ok_H_laws_eqMessage : H_laws_eqMessage.ok Try.prog := AllOk.okR (.cons m240 (.cons ok_laws_eqDigestS (.cons ok_laws_eqStringS .nil))) .nil mix
theorem f_eqMessage (x : Msg) (h : x.2.2.2.2.2.2.1.length ≤ maxLen ∧ x.2.2.2.2.2.2.2.length ≤ maxLen) : VFun Try.prog 12 [(CE.st cMsg).enc x, (CE.st cMsg).enc x] [] (eBool.enc true) [] := by
  refine VFun_pure (n := 48) (rs := [.tmp 4]) Try.func12 rfl rfl rfl rfl H_laws_eqMessage ok_H_laws_eqMessage _ _ (Nat.le_of_ble_eq_true rfl) (by kernel_rfl) ?_
  simp only [go_sem, ↓reduceIte, reduceCtorEq, Nat.reduceAdd, Nat.reduceMul, Nat.reduceEqDiff, Nat.reduceSub, Nat.reduceLT, Nat.reduceLeDiff, Nat.reduceAnd, Nat.reduceShiftRight, Nat.reduceBEq, Nat.reduceBNe, Nat.reduceBneDiff, Nat.reduceBeqDiff, Int.reduceToNat, Int.reduceLE, Int.reduceLT, Int.reduceEq, decide_true]
  exact h
abbrev MEqMsg : FM := .f2 (CE.st cMsg) (CE.st cMsg) eBool.enc (fun _ _ => true) (fun x y => x = y ∧ x.2.2.2.2.2.2.1.length ≤ maxLen ∧ x.2.2.2.2.2.2.2.length ≤ maxLen)
attribute [go_sem] MEqMsg
theorem ok_laws_eqMessage : MEqMsg.ok Try.prog 12 := FM.f2_ok fun x y h => by rw [← h.1]; exact f_eqMessage x h.2

def H_laws_szLog : Hint := { fs := [], kp := [(0, [0, 1]), (1, [1, 2]), (2, [1]), (3, []), (4, [1])], an := [], rs := [(24, RSzStringS)] }
attribute [go_sem] H_laws_szLog
theorem ok_H_laws_szLog : H_laws_szLog.ok Try.prog := AllOk.okR .nil (.cons ok_laws_szStringS .nil) mix
theorem f_szLog (c : Log) (n : Int) (h : c.length ≤ maxLen ∧ ∀ x ∈ c, x.size ≤ maxLen) (hn : 0 ≤ n ∧ n ≤ 1048576) : ∃ v : Int, szGood n v c.length ∧ VFun Try.prog 6 [(CE.st cLog).enc c, (eInt .i64).enc n] [] ((eInt .i64).enc v) [] := by
  refine VFun_rel (n := 12) (rs := [.tmp 4]) Try.func6 rfl rfl rfl rfl H_laws_szLog ok_H_laws_szLog  (rin := []) (T := Int) (eInt .i64) (fun t => t) (fun t => []) (fun v => szGood n v c.length) (Nat.le_of_ble_eq_true rfl) (by kernel_rfl) ?_
  simp only [go_sem, ↓reduceIte, reduceCtorEq, Nat.reduceAdd, Nat.reduceMul, Nat.reduceEqDiff, Nat.reduceSub, Nat.reduceLT, Nat.reduceLeDiff, Nat.reduceAnd, Nat.reduceShiftRight, Nat.reduceBEq, Nat.reduceBNe, Nat.reduceBneDiff, Nat.reduceBeqDiff, Int.reduceToNat, Int.reduceLE, Int.reduceLT, Int.reduceEq]
  refine ⟨⟨h, by omega, by omega⟩, fun v hv => ite_intro (fun h1 => ⟨-1, ⟨by omega, by omega, fun h => absurd h (by omega)⟩, rfl⟩) fun h1 => ⟨v, hv, rfl⟩⟩
abbrev RSzLog : FR := .p2 (CE.st cLog) (eInt .i64) (eInt .i64) (fun c n => (c.length ≤ maxLen ∧ ∀ x ∈ c, x.size ≤ maxLen) ∧ 0 ≤ n ∧ n ≤ 1048576) (fun c n v => szGood n v c.length)
attribute [go_sem] RSzLog
theorem ok_laws_szLog : RSzLog.ok Try.prog 6 := FR.p2_ok fun xs n h => f_szLog xs n h.1 h.2

abbrev szM (n v : Int) (m : Msg) : Prop := -1 ≤ v ∧ v ≤ n ∧ (0 ≤ v → (m.2.2.2.2.2.2.1.length : Int) ≤ n ∧ (m.2.2.2.2.2.2.2.length : Int) ≤ n)
def H_laws_szMessage : Hint := { fs := [], kp := [(0, [0, 1]), (1, [1, 2]), (2, [1, 2]), (3, []), (4, [1, 2]), (5, [1]), (6, []), (7, [1])], an := [], rs := [(24, RSzStringS), (25, RSzDigestS)] }
attribute [go_sem] H_laws_szMessage
theorem ok_H_laws_szMessage : H_laws_szMessage.ok Try.prog := AllOk.okR .nil (.cons ok_laws_szStringS (.cons ok_laws_szDigestS .nil)) mix
theorem f_szMessage (m : Msg) (n : Int) (h : m.2.2.2.2.2.2.1.length ≤ maxLen ∧ m.2.2.2.2.2.2.2.length ≤ maxLen ∧ ∀ x ∈ m.2.2.2.2.2.2.2, x.size ≤ maxLen) (hn : 0 ≤ n ∧ n ≤ 1048576) : ∃ v : Int, szM n v m ∧ VFun Try.prog 7 [(CE.st cMsg).enc m, (eInt .i64).enc n] [] ((eInt .i64).enc v) [] := by
  refine VFun_rel (n := 18) (rs := [.tmp 4]) Try.func7 rfl rfl rfl rfl H_laws_szMessage ok_H_laws_szMessage  (rin := []) (T := Int) (eInt .i64) (fun t => t) (fun t => []) (fun v => szM n v m) (Nat.le_of_ble_eq_true rfl) (by kernel_rfl) ?_
  simp only [go_sem, ↓reduceIte, reduceCtorEq, Nat.reduceAdd, Nat.reduceMul, Nat.reduceEqDiff, Nat.reduceSub, Nat.reduceLT, Nat.reduceLeDiff, Nat.reduceAnd, Nat.reduceShiftRight, Nat.reduceBEq, Nat.reduceBNe, Nat.reduceBneDiff, Nat.reduceBeqDiff, Int.reduceToNat, Int.reduceLE, Int.reduceLT, Int.reduceEq]
  refine ⟨⟨h.1, by omega, by omega⟩, fun v hv => ite_intro (fun h1 => ⟨-1, ⟨by omega, by omega, fun h => absurd h (by omega)⟩, rfl⟩) fun h1 => ⟨⟨h.2, by omega, by omega⟩, fun u hu => ite_intro (fun h2 => ⟨-1, ⟨by omega, by omega, fun h => absurd h (by omega)⟩, rfl⟩) fun h2 => ⟨u, ⟨by omega, by omega, fun _ => ⟨by omega, by omega⟩⟩, rfl⟩⟩⟩
abbrev RSzMsg : FR := .p2 (CE.st cMsg) (eInt .i64) (eInt .i64) (fun m n => (m.2.2.2.2.2.2.1.length ≤ maxLen ∧ m.2.2.2.2.2.2.2.length ≤ maxLen ∧ ∀ x ∈ m.2.2.2.2.2.2.2, x.size ≤ maxLen) ∧ 0 ≤ n ∧ n ≤ 1048576) (fun m n v => szM n v m)
attribute [go_sem] RSzMsg
theorem ok_laws_szMessage : RSzMsg.ok Try.prog 7 := FR.p2_ok fun xs n h => f_szMessage xs n h.1 h.2

/-- A log, marked; a message, marked. -/
def FM.mkLog : FM := ⟨[0], fun args rin => match args, rin with
  | [e1, .x (.o (.c (.v (.int .i64 k))))], [.row 1 rows] => match mapO cStr.dec rows with
    | some xs => some ((eInt .i64).enc ((1 + xs.length : Nat) : Int), [some (oR cStr (markS 1 xs.length))], rows = xs.map cStr.enc ∧ e1 = oLog xs ∧ k = 1 ∧ xs.length ≤ 1100000)
    | none => none
  | _, _ => none⟩
theorem FM.mkLog_ok {P : Program} {g : FuncId} (h : ∀ (c : Log), c.length ≤ 1100000 → VFun P g [oLog c, (eInt .i64).enc 1] [some (oR cStr c)] ((eInt .i64).enc ((1 + c.length : Nat) : Int)) [some (oR cStr (markS 1 c.length))]) : FM.mkLog.ok P g := by
  intro args rin res rout p hm hp
  simp only [FM.mkLog] at hm
  split at hm
  · split at hm
    · cases hm
      obtain ⟨rfl, rfl, rfl, h3⟩ := hp
      exact h _ h3
    · cases hm
  · cases hm
attribute [go_sem] FM.mkLog
def H_laws_markLog : Hint := { fs := [(42, MMarkS)], kp := [(0, [0, 1]), (1, [1, 2]), (2, [1])], an := [] }
attribute [go_sem] H_laws_markLog
theorem ok_H_laws_markLog : H_laws_markLog.ok Try.prog := AllOk.okR (.cons ok_laws_markStringS .nil) .nil mix
theorem f_markLog (c : Log) (h : c.length ≤ 1100000) : VFun Try.prog 14 [oLog c, (eInt .i64).enc 1] [some (oR cStr c)] ((eInt .i64).enc ((1 + c.length : Nat) : Int)) [some (oR cStr (markS 1 c.length))] := by
  refine VFun_own (rin := [oR cStr c]) (n := 10) (rs := [.tmp 4]) Try.func14 rfl rfl rfl rfl H_laws_markLog ok_H_laws_markLog (Nat.le_of_ble_eq_true rfl) (by kernel_rfl) ?_
  simp only [go_sem, ↓reduceIte, reduceCtorEq, Nat.reduceAdd, Nat.reduceMul, Nat.reduceEqDiff, Nat.reduceSub, Nat.reduceLT, Nat.reduceLeDiff, Nat.reduceAnd, Nat.reduceShiftRight, Nat.reduceBEq, Nat.reduceBNe, Nat.reduceBneDiff, Nat.reduceBeqDiff, Int.reduceToNat, Int.reduceLE, Int.reduceLT, Int.reduceEq]
  omega
theorem ok_laws_markLog : FM.mkLog.ok Try.prog 14 := FM.mkLog_ok f_markLog

def FM.mkMsg : FM := ⟨[0], fun args rin => match args, rin with
  | [e1, .x (.o (.c (.v (.int .i64 k))))], [.row 4 rows, .row 1 rowt] => match mapO cDigest.dec rows, mapO cStr.dec rowt with
    | some xs, some ys => some ((eInt .i64).enc ((k.toNat + 4 * xs.length + ys.length : Nat) : Int), [some (oR cDigest (markD k.toNat xs.length)), some (oR cStr (markS (k.toNat + 4 * xs.length) ys.length))], rows = xs.map cDigest.enc ∧ rowt = ys.map cStr.enc ∧ ∃ m : Msg, e1 = oMsg m ∧ xs = m.2.2.2.2.2.2.1 ∧ ys = m.2.2.2.2.2.2.2 ∧ (1 ≤ k ∧ k ≤ 2000000) ∧ m.2.2.2.2.2.2.1.length ≤ 1100000 ∧ m.2.2.2.2.2.2.2.length ≤ 1100000)
    | _, _ => none
  | _, _ => none⟩
theorem FM.mkMsg_ok {P : Program} {g : FuncId} (h : ∀ (m : Msg) (k : Nat), 1 ≤ k → k ≤ 2000000 → m.2.2.2.2.2.2.1.length ≤ 1100000 → m.2.2.2.2.2.2.2.length ≤ 1100000 → VFun P g [oMsg m, (eInt .i64).enc k] [some (oR cDigest m.2.2.2.2.2.2.1), some (oR cStr m.2.2.2.2.2.2.2)] ((eInt .i64).enc ((k + 4 * m.2.2.2.2.2.2.1.length + m.2.2.2.2.2.2.2.length : Nat) : Int)) [some (oR cDigest (markD k m.2.2.2.2.2.2.1.length)), some (oR cStr (markS (k + 4 * m.2.2.2.2.2.2.1.length) m.2.2.2.2.2.2.2.length))]) : FM.mkMsg.ok P g := by
  intro args rin res rout p hm hp
  simp only [FM.mkMsg] at hm
  split at hm
  · split at hm
    · cases hm
      obtain ⟨rfl, rfl, t, rfl, rfl, rfl, hk, h1, h2⟩ := hp
      obtain ⟨n, rfl⟩ := Int.eq_ofNat_of_zero_le (show 0 ≤ _ from Int.le_trans (by decide) hk.1)
      exact h t n (by omega) (by omega) h1 h2
    · cases hm
  · cases hm
attribute [go_sem] FM.mkMsg
def H_laws_markMessage : Hint := { fs := [(42, MMarkS), (43, MMarkD)], kp := [(0, [0, 1]), (1, [1, 2]), (2, [1, 2]), (3, [1])], an := [] }
attribute [go_sem] H_laws_markMessage
theorem ok_H_laws_markMessage : H_laws_markMessage.ok Try.prog := AllOk.okR (.cons ok_laws_markStringS (.cons ok_laws_markDigestS .nil)) .nil mix
theorem f_markMessage (m : Msg) (k : Nat) (h1 : 1 ≤ k) (h2 : k ≤ 2000000) (h3 : m.2.2.2.2.2.2.1.length ≤ 1100000) (h4 : m.2.2.2.2.2.2.2.length ≤ 1100000) : VFun Try.prog 15 [oMsg m, (eInt .i64).enc k] [some (oR cDigest m.2.2.2.2.2.2.1), some (oR cStr m.2.2.2.2.2.2.2)] ((eInt .i64).enc ((k + 4 * m.2.2.2.2.2.2.1.length + m.2.2.2.2.2.2.2.length : Nat) : Int)) [some (oR cDigest (markD k m.2.2.2.2.2.2.1.length)), some (oR cStr (markS (k + 4 * m.2.2.2.2.2.2.1.length) m.2.2.2.2.2.2.2.length))] := by
  refine VFun_own (rin := [oR cDigest m.2.2.2.2.2.2.1, oR cStr m.2.2.2.2.2.2.2]) (n := 14) (rs := [.tmp 4]) Try.func15 rfl rfl rfl rfl H_laws_markMessage ok_H_laws_markMessage (Nat.le_of_ble_eq_true rfl) (by kernel_rfl) ?_
  simp only [go_sem, ↓reduceIte, reduceCtorEq, Nat.reduceAdd, Nat.reduceMul, Nat.reduceEqDiff, Nat.reduceSub, Nat.reduceLT, Nat.reduceLeDiff, Nat.reduceAnd, Nat.reduceShiftRight, Nat.reduceBEq, Nat.reduceBNe, Nat.reduceBneDiff, Nat.reduceBeqDiff, Int.reduceToNat, Int.reduceLE, Int.reduceLT, Int.reduceEq]
  exact ⟨⟨by omega, by omega⟩, by omega, by omega⟩
theorem ok_laws_markMessage : FM.mkMsg.ok Try.prog 15 := FM.mkMsg_ok f_markMessage

def H_laws_heldMessage : Hint := { fs := [(44, MHeldD), (45, MHeldS)], kp := [(0, [0, 1]), (1, [1, 2]), (2, [1, 2]), (3, []), (4, [1, 2]), (5, [1]), (6, []), (7, [1])], an := [] }
attribute [go_sem] H_laws_heldMessage
theorem ok_H_laws_heldMessage : H_laws_heldMessage.ok Try.prog := AllOk.okR (.cons ok_laws_heldDigestS (.cons ok_laws_heldStringS .nil)) .nil mix
theorem f_heldMessage (m : Msg) (k : Int) (h : k = 1 ∧ m.2.2.2.2.2.2.1 = markD 1 m.2.2.2.2.2.2.1.length ∧ m.2.2.2.2.2.2.2 = markS (1 + 4 * m.2.2.2.2.2.2.1.length) m.2.2.2.2.2.2.2.length ∧ m.2.2.2.2.2.2.1.length ≤ 1100000 ∧ m.2.2.2.2.2.2.2.length ≤ 1100000) : VFun Try.prog 16 [(CE.st cMsg).enc m, (eInt .i64).enc k] [] ((eInt .i64).enc ((1 + 4 * m.2.2.2.2.2.2.1.length + m.2.2.2.2.2.2.2.length : Nat) : Int)) [] := by
  obtain ⟨rfl, g1, g2, h1, h2⟩ := h
  have c1 : (((1 + 4 * m.2.2.2.2.2.2.1.length : Nat) : Int) < 0) = False := eq_false (by omega)
  have c2 : (((1 + 4 * m.2.2.2.2.2.2.1.length + m.2.2.2.2.2.2.2.length : Nat) : Int) < 0) = False := eq_false (by omega)
  refine VFun_pure (n := 18) (rs := [.tmp 4]) Try.func16 rfl rfl rfl rfl H_laws_heldMessage ok_H_laws_heldMessage _ _ (Nat.le_of_ble_eq_true rfl) (by kernel_rfl) ?_
  simp only [go_sem, ↓reduceIte, reduceCtorEq, Nat.reduceAdd, Nat.reduceMul, Nat.reduceEqDiff, Nat.reduceSub, Nat.reduceLT, Nat.reduceLeDiff, Nat.reduceAnd, Nat.reduceShiftRight, Nat.reduceBEq, Nat.reduceBNe, Nat.reduceBneDiff, Nat.reduceBeqDiff, Int.reduceToNat, Int.reduceLE, Int.reduceLT, Int.reduceEq, c1, c2]
  exact ⟨⟨g1, by omega⟩, g2, by omega, by omega⟩
abbrev MHeldMsg : FM := .f2 (CE.st cMsg) (eInt .i64) (eInt .i64).enc (fun m _ => ((1 + 4 * m.2.2.2.2.2.2.1.length + m.2.2.2.2.2.2.2.length : Nat) : Int)) (fun m k => k = 1 ∧ m.2.2.2.2.2.2.1 = markD 1 m.2.2.2.2.2.2.1.length ∧ m.2.2.2.2.2.2.2 = markS (1 + 4 * m.2.2.2.2.2.2.1.length) m.2.2.2.2.2.2.2.length ∧ m.2.2.2.2.2.2.1.length ≤ 1100000 ∧ m.2.2.2.2.2.2.2.length ≤ 1100000)
attribute [go_sem] MHeldMsg
theorem ok_laws_heldMessage : MHeldMsg.ok Try.prog 16 := FM.f2_ok fun m k h => f_heldMessage m k h

end Go.Proofs.YtfccplibbdnkpaaW.V

