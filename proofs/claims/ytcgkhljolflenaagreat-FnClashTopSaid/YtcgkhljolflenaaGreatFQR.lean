/- Readers in boxes: the draws of leaves. No condition but each theorem's own. -/
import Derived.Test.YtcgkhljolflenaaGreatFRw
namespace Go.Proofs.YtcgkhljolflenaaGreatW.V
open Go Go.Proofs
set_option linter.unusedSimpArgs false
set_option linter.unusedVariables false
set_option maxRecDepth 8000
set_option maxHeartbeats 4000000

set_option synthInstance.maxSize 1000

/-- Readers in boxes. -/
abbrev bxP (j : Nat) : Root := .bx [[.p (0, j) 0 0 1]]
attribute [go_sem] bxP
abbrev FR.rl0 {R : Type} (r : R → E) (K : Int) (post : R → Prop) : FR where
  md := []
  m args rin := match args, rin with
    | [.x (.o (.p (0, 0) 0 0 1))], [.bx [[.p (0, 1) 0 0 1]], .bx [[.c (.s rows), .c (.v (.int .i64 p))]]] => match mapO cU8.dec rows with
      | some b => some (rows = b.map cU8.enc ∧ 0 ≤ p ∧ p + K ≤ rdM, fun k => ∀ v q, p ≤ q ∧ q ≤ p + K ∧ post v → k (r v) [some (bxP 1), some (rdR b q)])
      | none => none
    | _, _ => none
theorem FR.rl0_ok {P : Program} {g : FuncId} {R : Type} {r : R → E} {K : Int} {post : R → Prop} (h : ∀ (b : List UInt8) (p : Int), 0 ≤ p → p + K ≤ rdM → ∃ t : R × Int, (p ≤ t.2 ∧ t.2 ≤ p + K ∧ post t.1) ∧ VFun P g [rdP] [some (bxP 1), some (rdR b p)] (r t.1) [some (bxP 1), some (rdR b t.2)]) : (FR.rl0 r K post).ok P g := by
  intro args rin pre W hm hp k hk
  simp only [FR.rl0] at hm
  split at hm
  · split at hm
    · cases hm
      obtain ⟨e, h1, h2⟩ := hp
      subst e
      obtain ⟨t, h3, h4⟩ := h _ _ h1 h2
      exact ⟨_, _, h4, hk _ _ h3⟩
    · cases hm
  · cases hm
abbrev FR.rl1 {X R : Type} (a : CE X) (r : R → E) (K : X → Int) (pre : X → Prop) (post : X → R → Prop) : FR where
  md := []
  m args rin := match args, rin with
    | [.x (.o (.p (0, 0) 0 0 1)), e2], [.bx [[.p (0, 1) 0 0 1]], .bx [[.c (.s rows), .c (.v (.int .i64 p))]]] => match mapO cU8.dec rows, a.dec e2 with
      | some b, some x => some (rows = b.map cU8.enc ∧ 0 ≤ p ∧ p + K x ≤ rdM ∧ pre x, fun k => ∀ v q, p ≤ q ∧ q ≤ p + K x ∧ post x v → k (r v) [some (bxP 1), some (rdR b q)])
      | _, _ => none
    | _, _ => none
theorem FR.rl1_ok {P : Program} {g : FuncId} {X R : Type} {a : CE X} {r : R → E} {K : X → Int} {pre : X → Prop} {post : X → R → Prop} (h : ∀ (b : List UInt8) (p : Int) (x : X), 0 ≤ p → p + K x ≤ rdM → pre x → ∃ t : R × Int, (p ≤ t.2 ∧ t.2 ≤ p + K x ∧ post x t.1) ∧ VFun P g [rdP, a.enc x] [some (bxP 1), some (rdR b p)] (r t.1) [some (bxP 1), some (rdR b t.2)]) : (FR.rl1 a r K pre post).ok P g := by
  intro args rin pr W hm hp k hk
  simp only [FR.rl1] at hm
  split at hm
  · split at hm
    · rename_i e2 rows p _ _ b x h1 h2
      cases hm
      obtain ⟨e, h3, h4, h5⟩ := hp
      subst e
      obtain ⟨t, h6, h7⟩ := h b p x h3 h4 h5
      exact ⟨_, _, h7.weaken (.cons (fun _ _ _ _ _ h => h) (.cons (a.ok _ _ h2) .nil)), hk _ _ h6⟩
    · cases hm
  · cases hm
abbrev FR.rm0 {R : Type} (r : R → E) (K : Int) (post : R → Prop) : FR where
  md := []
  m args rin := match args, rin with
    | [.x (.o (.p (0, 0) 0 0 1))], [.bx [[.p (0, 1) 0 0 1]], .bx [[.p (0, 2) 0 0 1]], .bx [[.c (.s rows), .c (.v (.int .i64 p))]]] => match mapO cU8.dec rows with
      | some b => some (rows = b.map cU8.enc ∧ 0 ≤ p ∧ p + K ≤ rdM, fun k => ∀ v q, p ≤ q ∧ q ≤ p + K ∧ post v → k (r v) [some (bxP 1), some (bxP 2), some (rdR b q)])
      | none => none
    | _, _ => none
theorem FR.rm0_ok {P : Program} {g : FuncId} {R : Type} {r : R → E} {K : Int} {post : R → Prop} (h : ∀ (b : List UInt8) (p : Int), 0 ≤ p → p + K ≤ rdM → ∃ t : R × Int, (p ≤ t.2 ∧ t.2 ≤ p + K ∧ post t.1) ∧ VFun P g [rdP] [some (bxP 1), some (bxP 2), some (rdR b p)] (r t.1) [some (bxP 1), some (bxP 2), some (rdR b t.2)]) : (FR.rm0 r K post).ok P g := by
  intro args rin pre W hm hp k hk
  simp only [FR.rm0] at hm
  split at hm
  · split at hm
    · cases hm
      obtain ⟨e, h1, h2⟩ := hp
      subst e
      obtain ⟨t, h3, h4⟩ := h _ _ h1 h2
      exact ⟨_, _, h4, hk _ _ h3⟩
    · cases hm
  · cases hm
abbrev FR.rm1 {X R : Type} (a : CE X) (r : R → E) (K : X → Int) (pre : X → Prop) (post : X → R → Prop) : FR where
  md := []
  m args rin := match args, rin with
    | [.x (.o (.p (0, 0) 0 0 1)), e2], [.bx [[.p (0, 1) 0 0 1]], .bx [[.p (0, 2) 0 0 1]], .bx [[.c (.s rows), .c (.v (.int .i64 p))]]] => match mapO cU8.dec rows, a.dec e2 with
      | some b, some x => some (rows = b.map cU8.enc ∧ 0 ≤ p ∧ p + K x ≤ rdM ∧ pre x, fun k => ∀ v q, p ≤ q ∧ q ≤ p + K x ∧ post x v → k (r v) [some (bxP 1), some (bxP 2), some (rdR b q)])
      | _, _ => none
    | _, _ => none
theorem FR.rm1_ok {P : Program} {g : FuncId} {X R : Type} {a : CE X} {r : R → E} {K : X → Int} {pre : X → Prop} {post : X → R → Prop} (h : ∀ (b : List UInt8) (p : Int) (x : X), 0 ≤ p → p + K x ≤ rdM → pre x → ∃ t : R × Int, (p ≤ t.2 ∧ t.2 ≤ p + K x ∧ post x t.1) ∧ VFun P g [rdP, a.enc x] [some (bxP 1), some (bxP 2), some (rdR b p)] (r t.1) [some (bxP 1), some (bxP 2), some (rdR b t.2)]) : (FR.rm1 a r K pre post).ok P g := by
  intro args rin pr W hm hp k hk
  simp only [FR.rm1] at hm
  split at hm
  · split at hm
    · rename_i e2 rows p _ _ b x h1 h2
      cases hm
      obtain ⟨e, h3, h4, h5⟩ := hp
      subst e
      obtain ⟨t, h6, h7⟩ := h b p x h3 h4 h5
      exact ⟨_, _, h7.weaken (.cons (fun _ _ _ _ _ h => h) (.cons (a.ok _ _ h2) .nil)), hk _ _ h6⟩
    · cases hm
  · cases hm

def H_spec_l2Open : Hint := { fs := [(103, MOpen)], kp := [(0, [0]), (1, [0])], an := [], own := true }
attribute [go_sem] H_spec_l2Open
theorem ok_H_spec_l2Open : H_spec_l2Open.ok Tryz.prog := AllOk.okR (.cons ok_spec_l1Open .nil) .nil mix
theorem f_l2Open (b : List UInt8) (h : b.length ≤ 1048576) : VFun Tryz.prog 86 [(eList cU8).enc b] [] rdP [some (bxP 1), some (rdR (b.take 2000) 0)] := by
  refine VFun_own (rin := []) (n := 7) (rs := [.tmp 2]) Tryz.func86 rfl rfl rfl rfl H_spec_l2Open ok_H_spec_l2Open (Nat.le_of_ble_eq_true rfl) (by kernel_rfl) ?_
  simp only [go_sem, ↓reduceIte, reduceCtorEq, Nat.reduceAdd, Nat.reduceMul, Nat.reduceEqDiff, Nat.reduceSub, Nat.reduceLT, Nat.reduceLeDiff, Nat.reduceAnd, Nat.reduceShiftRight, Nat.reduceBEq, Nat.reduceBNe, Nat.reduceBneDiff, Nat.reduceBeqDiff, Int.reduceToNat, Int.reduceLE, Int.reduceLT, Int.reduceEq]
  exact h
abbrev Ml2Open : FM := .g1 (eList cU8) (fun b => (rdP, [some (bxP 1), some (rdR (b.take 2000) 0)])) (fun b => b.length ≤ 1048576)
attribute [go_sem] Ml2Open
theorem ok_spec_l2Open : Ml2Open.ok Tryz.prog 86 := FM.g1_ok fun b h => f_l2Open b h

def H_spec_l3Open : Hint := { fs := [(86, Ml2Open)], kp := [(0, [0]), (1, [0])], an := [], own := true }
attribute [go_sem] H_spec_l3Open
theorem ok_H_spec_l3Open : H_spec_l3Open.ok Tryz.prog := AllOk.okR (.cons ok_spec_l2Open .nil) .nil mix
theorem f_l3Open (b : List UInt8) (h : b.length ≤ 1048576) : VFun Tryz.prog 38 [(eList cU8).enc b] [] rdP [some (bxP 1), some (bxP 2), some (rdR (b.take 2000) 0)] := by
  refine VFun_own (rin := []) (n := 7) (rs := [.tmp 2]) Tryz.func38 rfl rfl rfl rfl H_spec_l3Open ok_H_spec_l3Open (Nat.le_of_ble_eq_true rfl) (by kernel_rfl) ?_
  simp only [go_sem, ↓reduceIte, reduceCtorEq, Nat.reduceAdd, Nat.reduceMul, Nat.reduceEqDiff, Nat.reduceSub, Nat.reduceLT, Nat.reduceLeDiff, Nat.reduceAnd, Nat.reduceShiftRight, Nat.reduceBEq, Nat.reduceBNe, Nat.reduceBneDiff, Nat.reduceBeqDiff, Int.reduceToNat, Int.reduceLE, Int.reduceLT, Int.reduceEq]
  exact h
abbrev Ml3Open : FM := .g1 (eList cU8) (fun b => (rdP, [some (bxP 1), some (bxP 2), some (rdR (b.take 2000) 0)])) (fun b => b.length ≤ 1048576)
attribute [go_sem] Ml3Open
theorem ok_spec_l3Open : Ml3Open.ok Tryz.prog 38 := FM.g1_ok fun b h => f_l3Open b h

def H_spec_l4Open : Hint := { fs := [(38, Ml3Open)], kp := [(0, [0]), (1, [0])], an := [], own := true }
attribute [go_sem] H_spec_l4Open
theorem ok_H_spec_l4Open : H_spec_l4Open.ok Tryz.prog := AllOk.okR (.cons ok_spec_l3Open .nil) .nil mix
theorem f_l4Open (b : List UInt8) (h : b.length ≤ 1048576) : VFun Tryz.prog 14 [(eList cU8).enc b] [] rdP [some (bxP 1), some (bxP 2), some (bxP 3), some (rdR (b.take 2000) 0)] := by
  refine VFun_own (rin := []) (n := 7) (rs := [.tmp 2]) Tryz.func14 rfl rfl rfl rfl H_spec_l4Open ok_H_spec_l4Open (Nat.le_of_ble_eq_true rfl) (by kernel_rfl) ?_
  simp only [go_sem, ↓reduceIte, reduceCtorEq, Nat.reduceAdd, Nat.reduceMul, Nat.reduceEqDiff, Nat.reduceSub, Nat.reduceLT, Nat.reduceLeDiff, Nat.reduceAnd, Nat.reduceShiftRight, Nat.reduceBEq, Nat.reduceBNe, Nat.reduceBneDiff, Nat.reduceBeqDiff, Int.reduceToNat, Int.reduceLE, Int.reduceLT, Int.reduceEq]
  exact h
abbrev Ml4Open : FM := .g1 (eList cU8) (fun b => (rdP, [some (bxP 1), some (bxP 2), some (bxP 3), some (rdR (b.take 2000) 0)])) (fun b => b.length ≤ 1048576)
attribute [go_sem] Ml4Open
theorem ok_spec_l4Open : Ml4Open.ok Tryz.prog 14 := FM.g1_ok fun b h => f_l4Open b h

def H_spec_l2Rd_leaf : Hint := { fs := [], kp := [(0, [0]), (1, [0]), (2, []), (3, [0])], an := [], rs := [(16, RPick), (43, RMany), (44, RText)] }
attribute [go_sem] H_spec_l2Rd_leaf
theorem ok_H_spec_l2Rd_leaf : H_spec_l2Rd_leaf.ok Tryz.prog := AllOk.okR .nil (.cons ok_spec_l1Rd_pick (.cons ok_spec_l1Many (.cons ok_spec_l1Rd_text .nil))) mix
theorem f_leaf (b : List UInt8) (p : Int) (h0 : 0 ≤ p) (h1 : p + 10 ≤ rdM) : ∃ t : ByteArray × Int, (p ≤ t.2 ∧ t.2 ≤ p + 10 ∧ t.1.size ≤ 40) ∧ VFun Tryz.prog 18 [rdP] [some (bxP 1), some (rdR b p)] (eStr.enc t.1) [some (bxP 1), some (rdR b t.2)] := by
  unfold rdM at h1
  refine VFun_rel (n := 15) (rs := [.tmp 2]) Tryz.func18 rfl rfl rfl rfl H_spec_l2Rd_leaf ok_H_spec_l2Rd_leaf  (rin := [bxP 1, rdR b p]) (T := ByteArray × Int) eStr (fun t => t.1) (fun t => [some (bxP 1), some (rdR b t.2)]) (fun t => p ≤ t.2 ∧ t.2 ≤ p + 10 ∧ t.1.size ≤ 40) (Nat.le_of_ble_eq_true rfl) (by kernel_rfl) ?_
  simp only [go_sem, ↓reduceIte, reduceCtorEq, Nat.reduceAdd, Nat.reduceMul, Nat.reduceEqDiff, Nat.reduceSub, Nat.reduceLT, Nat.reduceLeDiff, Nat.reduceAnd, Nat.reduceShiftRight, Nat.reduceBEq, Nat.reduceBNe, Nat.reduceBneDiff, Nat.reduceBeqDiff, Int.reduceToNat, Int.reduceLE, Int.reduceLT, Int.reduceEq]
  refine ⟨⟨by omega, by omega⟩, fun v q g => ite_intro (fun c => fun t ht => ⟨(t, q), ⟨by dsimp only; omega, by dsimp only; omega, by dsimp only; omega⟩, rfl, rfl⟩) fun c => ⟨⟨by omega, by omega⟩, fun t q2 g2 => ⟨(t, q2), ⟨by dsimp only; omega, by dsimp only; omega, by dsimp only; omega⟩, rfl, rfl⟩⟩⟩
abbrev RLeaf : FR := .rl0 eStr.enc 10 (fun t => t.size ≤ 40)
attribute [go_sem] RLeaf
theorem ok_spec_l2Rd_leaf : RLeaf.ok Tryz.prog 18 := FR.rl0_ok fun b p h0 h1 => f_leaf b p h0 h1

def H_spec_l2Rd_size : Hint := { fs := [], kp := [(0, [0]), (1, [0]), (2, [0]), (3, [0])], an := [], rs := [(16, RPick)] }
attribute [go_sem] H_spec_l2Rd_size
theorem ok_H_spec_l2Rd_size : H_spec_l2Rd_size.ok Tryz.prog := AllOk.okR .nil (.cons ok_spec_l1Rd_pick .nil) mix
theorem f_size (b : List UInt8) (p : Int) (h0 : 0 ≤ p) (h1 : p + 2 ≤ rdM) : ∃ t : Int × Int, (p ≤ t.2 ∧ t.2 ≤ p + 2 ∧ 0 ≤ t.1 ∧ t.1 < 70) ∧ VFun Tryz.prog 40 [rdP] [some (bxP 1), some (rdR b p)] ((eInt .i64).enc t.1) [some (bxP 1), some (rdR b t.2)] := by
  unfold rdM at h1
  refine VFun_rel (n := 19) (rs := [.tmp 2]) Tryz.func40 rfl rfl rfl rfl H_spec_l2Rd_size ok_H_spec_l2Rd_size  (rin := [bxP 1, rdR b p]) (T := Int × Int) (eInt .i64) (fun t => t.1) (fun t => [some (bxP 1), some (rdR b t.2)]) (fun t => p ≤ t.2 ∧ t.2 ≤ p + 2 ∧ 0 ≤ t.1 ∧ t.1 < 70) (Nat.le_of_ble_eq_true rfl) (by kernel_rfl) ?_
  simp only [go_sem, ↓reduceIte, reduceCtorEq, Nat.reduceAdd, Nat.reduceMul, Nat.reduceEqDiff, Nat.reduceSub, Nat.reduceLT, Nat.reduceLeDiff, Nat.reduceAnd, Nat.reduceShiftRight, Nat.reduceBEq, Nat.reduceBNe, Nat.reduceBneDiff, Nat.reduceBeqDiff, Int.reduceToNat, Int.reduceLE, Int.reduceLT, Int.reduceEq]
  refine ⟨⟨by omega, by omega⟩, fun v q g => ite_intro (fun c => ⟨⟨by omega, by omega⟩, fun t q2 g2 => ⟨(t, q2), by dsimp only; omega, rfl, rfl⟩⟩) fun c => ⟨⟨by omega, by omega⟩, fun t q2 g2 => ⟨(t, q2), by dsimp only; omega, rfl, rfl⟩⟩⟩
abbrev RSize : FR := .rl0 (eInt .i64).enc 2 (fun t => 0 ≤ t ∧ t < 70)
attribute [go_sem] RSize
theorem ok_spec_l2Rd_size : RSize.ok Tryz.prog 40 := FR.rl0_ok fun b p h0 h1 => f_size b p h0 h1

def H_spec_l2Rd_leaves : Hint := { fs := [], kp := [(0, [0, 1]), (1, [0, 1]), (2, [0, 1, 5]), (3, [0, 1, 5, 6]), (5, [0, 1, 5, 6]), (4, [0, 1, 5, 6]), (6, [5])], an := [], rs := [(18, RLeaf)] }
attribute [go_sem] H_spec_l2Rd_leaves
theorem ok_H_spec_l2Rd_leaves : H_spec_l2Rd_leaves.ok Tryz.prog := AllOk.okR .nil (.cons ok_spec_l2Rd_leaf .nil) mix
theorem f_leaves (b : List UInt8) (p n : Int) (h0 : 0 ≤ p) (h1 : p + 10 * n ≤ rdM) (hn : 0 ≤ n ∧ n ≤ 71) : ∃ t : List ByteArray × Int, (p ≤ t.2 ∧ t.2 ≤ p + 10 * n ∧ (t.1.length : Int) = n ∧ ∀ x ∈ t.1, x.size ≤ 40) ∧ VFun Tryz.prog 39 [rdP, (eInt .i64).enc n] [some (bxP 1), some (rdR b p)] ((eList cStr).enc t.1) [some (bxP 1), some (rdR b t.2)] := by
  unfold rdM at h1
  refine VFun_rel (n := 19) (rs := [.tmp 4]) Tryz.func39 rfl rfl rfl rfl H_spec_l2Rd_leaves ok_H_spec_l2Rd_leaves  (rin := [bxP 1, rdR b p]) (T := List ByteArray × Int) (eList cStr) (fun t => t.1) (fun t => [some (bxP 1), some (rdR b t.2)]) (fun t => p ≤ t.2 ∧ t.2 ≤ p + 10 * n ∧ (t.1.length : Int) = n ∧ ∀ x ∈ t.1, x.size ≤ 40) (Nat.le_of_ble_eq_true rfl) (by kernel_rfl) ?_
  simp only [go_sem, ↓reduceIte, reduceCtorEq, Nat.reduceAdd, Nat.reduceMul, Nat.reduceEqDiff, Nat.reduceSub, Nat.reduceLT, Nat.reduceLeDiff, Nat.reduceAnd, Nat.reduceShiftRight, Nat.reduceBEq, Nat.reduceBNe, Nat.reduceBneDiff, Nat.reduceBeqDiff, Int.reduceToNat, Int.reduceLE, Int.reduceLT, Int.reduceEq]
  refine LoopV.go (H := H_spec_l2Rd_leaves) ok_H_spec_l2Rd_leaves (by kernel_rfl) (fun y : List ByteArray × Int => ⟨[(0, rdP), (1, sc (.int .i64 n)), (5, .x (.o (.h (1, 100) 0 y.1.length y.1.length))), (6, sc (.int .i64 y.1.length))], [((0, 0), bxP 1), ((0, 1), rdR b y.2), ((1, 100), .row 1 (y.1.map cStr.enc))], 2⟩) (fun y => n.toNat - y.1.length) (fun y => (y.1.length : Int) ≤ n ∧ p ≤ y.2 ∧ y.2 ≤ p + 10 * y.1.length ∧ ∀ x ∈ y.1, x.size ≤ 40) ?_ ([], p) ⟨by simp; omega, by dsimp only; omega, by simp, by simp⟩
  rintro ⟨xs, q⟩ ⟨j1, j2, j3, j4⟩
  dsimp only at j1 j2 j3 j4
  have w1 : IntKind.i64.wrap ((xs.length : Int) + 1) = ((xs.length + 1 : Nat) : Int) := by rw [wrap64] <;> omega
  by_cases hlt : (xs.length : Int) < n
  · simp only [go_sem, ↓reduceIte, reduceCtorEq, Nat.reduceAdd, Nat.reduceMul, Nat.reduceEqDiff, Nat.reduceSub, Nat.reduceLT, Nat.reduceLeDiff, Nat.reduceAnd, Nat.reduceShiftRight, Nat.reduceBEq, Nat.reduceBNe, Nat.reduceBneDiff, Nat.reduceBeqDiff, Int.reduceToNat, Int.reduceLE, Int.reduceLT, Int.reduceEq, hlt, w1]
    refine ⟨⟨by omega, by omega⟩, fun t q2 g2 => ⟨⟨by omega, by omega⟩, (xs ++ [t], q2), ⟨by simp; omega, by dsimp only; omega, by simp; omega, fun x hx => ?_⟩, by simp; omega, by simp [cStr]⟩⟩
    rcases List.mem_append.1 hx with h | h
    · exact j4 x h
    · rw [List.mem_singleton.1 h]; exact g2.2.2
  · simp only [go_sem, ↓reduceIte, reduceCtorEq, Nat.reduceAdd, Nat.reduceMul, Nat.reduceEqDiff, Nat.reduceSub, Nat.reduceLT, Nat.reduceLeDiff, Nat.reduceAnd, Nat.reduceShiftRight, Nat.reduceBEq, Nat.reduceBNe, Nat.reduceBneDiff, Nat.reduceBeqDiff, Int.reduceToNat, Int.reduceLE, Int.reduceLT, Int.reduceEq, hlt]
    exact ⟨(xs, q), ⟨by dsimp only; omega, by dsimp only; omega, by dsimp only; omega, j4⟩, rfl, rfl⟩
abbrev RLeaves : FR := .rl1 (eInt .i64) (eList cStr).enc (fun n => 10 * n) (fun n => 0 ≤ n ∧ n ≤ 71) (fun n t => (t.length : Int) = n ∧ ∀ x ∈ t, x.size ≤ 40)
attribute [go_sem] RLeaves
theorem ok_spec_l2Rd_leaves : RLeaves.ok Tryz.prog 39 := FR.rl1_ok fun b p n h0 h1 h2 => f_leaves b p n h0 h1 h2

end Go.Proofs.YtcgkhljolflenaaGreatW.V

