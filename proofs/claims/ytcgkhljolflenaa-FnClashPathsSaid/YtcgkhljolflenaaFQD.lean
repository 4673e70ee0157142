/- The draws of leaves and paths: of what is drawn only something is said. No condition but each theorem's own. -/
import Derived.Test.YtcgkhljolflenaaFQP
import Derived.Test.YtcgkhljolflenaaFRw
namespace Go.Proofs.YtcgkhljolflenaaW.V
open Go Go.Proofs
set_option linter.unusedSimpArgs false
set_option linter.unusedVariables false
set_option maxRecDepth 8000
set_option maxHeartbeats 4000000

set_option synthInstance.maxSize 1000

/-- Readers in boxes. -/
abbrev bxP (j : Nat) : Root := .bx [[.p (0, j) 0 0 1]]
attribute [go_sem] bxP
abbrev FR.rl0 {R : Type} (r : R → E) (K : Int) (post : R → Prop) : FR where
  md := []
  m args rin := match args, rin with
    | [.x (.o (.p (0, 0) 0 0 1))], [.bx [[.p (0, 1) 0 0 1]], .bx [[.c (.s rows), .c (.v (.int .i64 p))]]] => match mapO cU8.dec rows with
      | some b => some (rows = b.map cU8.enc ∧ 0 ≤ p ∧ p + K ≤ rdM, fun k => ∀ v q, p ≤ q ∧ q ≤ p + K ∧ post v → k (r v) [some (bxP 1), some (rdR b q)])
      | none => none
    | _, _ => none
theorem FR.rl0_ok {P : Program} {g : FuncId} {R : Type} {r : R → E} {K : Int} {post : R → Prop} (h : ∀ (b : List UInt8) (p : Int), 0 ≤ p → p + K ≤ rdM → ∃ t : R × Int, (p ≤ t.2 ∧ t.2 ≤ p + K ∧ post t.1) ∧ VFun P g [rdP] [some (bxP 1), some (rdR b p)] (r t.1) [some (bxP 1), some (rdR b t.2)]) : (FR.rl0 r K post).ok P g := by
  intro args rin pre W hm hp k hk
  simp only [FR.rl0] at hm
  split at hm
  · split at hm
    · cases hm
      obtain ⟨e, h1, h2⟩ := hp
      subst e
      obtain ⟨t, h3, h4⟩ := h _ _ h1 h2
      exact ⟨_, _, h4, hk _ _ h3⟩
    · cases hm
  · cases hm
abbrev FR.rl1 {X R : Type} (a : CE X) (r : R → E) (K : X → Int) (pre : X → Prop) (post : X → R → Prop) : FR where
  md := []
  m args rin := match args, rin with
    | [.x (.o (.p (0, 0) 0 0 1)), e2], [.bx [[.p (0, 1) 0 0 1]], .bx [[.c (.s rows), .c (.v (.int .i64 p))]]] => match mapO cU8.dec rows, a.dec e2 with
      | some b, some x => some (rows = b.map cU8.enc ∧ 0 ≤ p ∧ p + K x ≤ rdM ∧ pre x, fun k => ∀ v q, p ≤ q ∧ q ≤ p + K x ∧ post x v → k (r v) [some (bxP 1), some (rdR b q)])
      | _, _ => none
    | _, _ => none
theorem FR.rl1_ok {P : Program} {g : FuncId} {X R : Type} {a : CE X} {r : R → E} {K : X → Int} {pre : X → Prop} {post : X → R → Prop} (h : ∀ (b : List UInt8) (p : Int) (x : X), 0 ≤ p → p + K x ≤ rdM → pre x → ∃ t : R × Int, (p ≤ t.2 ∧ t.2 ≤ p + K x ∧ post x t.1) ∧ VFun P g [rdP, a.enc x] [some (bxP 1), some (rdR b p)] (r t.1) [some (bxP 1), some (rdR b t.2)]) : (FR.rl1 a r K pre post).ok P g := by
  intro args rin pr W hm hp k hk
  simp only [FR.rl1] at hm
  split at hm
  · split at hm
    · rename_i e2 rows p _ _ b x h1 h2
      cases hm
      obtain ⟨e, h3, h4, h5⟩ := hp
      subst e
      obtain ⟨t, h6, h7⟩ := h b p x h3 h4 h5
      exact ⟨_, _, h7.weaken (.cons (fun _ _ _ _ _ h => h) (.cons (a.ok _ _ h2) .nil)), hk _ _ h6⟩
    · cases hm
  · cases hm
abbrev FR.rm0 {R : Type} (r : R → E) (K : Int) (post : R → Prop) : FR where
  md := []
  m args rin := match args, rin with
    | [.x (.o (.p (0, 0) 0 0 1))], [.bx [[.p (0, 1) 0 0 1]], .bx [[.p (0, 2) 0 0 1]], .bx [[.c (.s rows), .c (.v (.int .i64 p))]]] => match mapO cU8.dec rows with
      | some b => some (rows = b.map cU8.enc ∧ 0 ≤ p ∧ p + K ≤ rdM, fun k => ∀ v q, p ≤ q ∧ q ≤ p + K ∧ post v → k (r v) [some (bxP 1), some (bxP 2), some (rdR b q)])
      | none => none
    | _, _ => none
theorem FR.rm0_ok {P : Program} {g : FuncId} {R : Type} {r : R → E} {K : Int} {post : R → Prop} (h : ∀ (b : List UInt8) (p : Int), 0 ≤ p → p + K ≤ rdM → ∃ t : R × Int, (p ≤ t.2 ∧ t.2 ≤ p + K ∧ post t.1) ∧ VFun P g [rdP] [some (bxP 1), some (bxP 2), some (rdR b p)] (r t.1) [some (bxP 1), some (bxP 2), some (rdR b t.2)]) : (FR.rm0 r K post).ok P g := by
  intro args rin pre W hm hp k hk
  simp only [FR.rm0] at hm
  split at hm
  · split at hm
    · cases hm
      obtain ⟨e, h1, h2⟩ := hp
      subst e
      obtain ⟨t, h3, h4⟩ := h _ _ h1 h2
      exact ⟨_, _, h4, hk _ _ h3⟩
    · cases hm
  · cases hm
abbrev FR.rm1 {X R : Type} (a : CE X) (r : R → E) (K : X → Int) (pre : X → Prop) (post : X → R → Prop) : FR where
  md := []
  m args rin := match args, rin with
    | [.x (.o (.p (0, 0) 0 0 1)), e2], [.bx [[.p (0, 1) 0 0 1]], .bx [[.p (0, 2) 0 0 1]], .bx [[.c (.s rows), .c (.v (.int .i64 p))]]] => match mapO cU8.dec rows, a.dec e2 with
      | some b, some x => some (rows = b.map cU8.enc ∧ 0 ≤ p ∧ p + K x ≤ rdM ∧ pre x, fun k => ∀ v q, p ≤ q ∧ q ≤ p + K x ∧ post x v → k (r v) [some (bxP 1), some (bxP 2), some (rdR b q)])
      | _, _ => none
    | _, _ => none
theorem FR.rm1_ok {P : Program} {g : FuncId} {X R : Type} {a : CE X} {r : R → E} {K : X → Int} {pre : X → Prop} {post : X → R → Prop} (h : ∀ (b : List UInt8) (p : Int) (x : X), 0 ≤ p → p + K x ≤ rdM → pre x → ∃ t : R × Int, (p ≤ t.2 ∧ t.2 ≤ p + K x ∧ post x t.1) ∧ VFun P g [rdP, a.enc x] [some (bxP 1), some (bxP 2), some (rdR b p)] (r t.1) [some (bxP 1), some (bxP 2), some (rdR b t.2)]) : (FR.rm1 a r K pre post).ok P g := by
  intro args rin pr W hm hp k hk
  simp only [FR.rm1] at hm
  split at hm
  · split at hm
    · rename_i e2 rows p _ _ b x h1 h2
      cases hm
      obtain ⟨e, h3, h4, h5⟩ := hp
      subst e
      obtain ⟨t, h6, h7⟩ := h b p x h3 h4 h5
      exact ⟨_, _, h7.weaken (.cons (fun _ _ _ _ _ h => h) (.cons (a.ok _ _ h2) .nil)), hk _ _ h6⟩
    · cases hm
  · cases hm

def H_spec_l2Open : Hint := { fs := [(117, MOpen)], kp := [(0, [0]), (1, [0])], an := [], own := true }
attribute [go_sem] H_spec_l2Open
theorem ok_H_spec_l2Open : H_spec_l2Open.ok Try.prog := AllOk.okR (.cons ok_spec_l1Open .nil) .nil mix
theorem f_l2Open (b : List UInt8) (h : b.length ≤ 1048576) : VFun Try.prog 108 [(eList cU8).enc b] [] rdP [some (bxP 1), some (rdR (b.take 2000) 0)] := by
  refine VFun_own (rin := []) (n := 7) (rs := [.tmp 2]) Try.func108 rfl rfl rfl rfl H_spec_l2Open ok_H_spec_l2Open (Nat.le_of_ble_eq_true rfl) (by kernel_rfl) ?_
  simp only [go_sem, ↓reduceIte, reduceCtorEq, Nat.reduceAdd, Nat.reduceMul, Nat.reduceEqDiff, Nat.reduceSub, Nat.reduceLT, Nat.reduceLeDiff, Nat.reduceAnd, Nat.reduceShiftRight, Nat.reduceBEq, Nat.reduceBNe, Nat.reduceBneDiff, Nat.reduceBeqDiff, Int.reduceToNat, Int.reduceLE, Int.reduceLT, Int.reduceEq]
  exact h
abbrev Ml2Open : FM := .g1 (eList cU8) (fun b => (rdP, [some (bxP 1), some (rdR (b.take 2000) 0)])) (fun b => b.length ≤ 1048576)
attribute [go_sem] Ml2Open
theorem ok_spec_l2Open : Ml2Open.ok Try.prog 108 := FM.g1_ok fun b h => f_l2Open b h

def H_spec_l3Open : Hint := { fs := [(108, Ml2Open)], kp := [(0, [0]), (1, [0])], an := [], own := true }
attribute [go_sem] H_spec_l3Open
theorem ok_H_spec_l3Open : H_spec_l3Open.ok Try.prog := AllOk.okR (.cons ok_spec_l2Open .nil) .nil mix
theorem f_l3Open (b : List UInt8) (h : b.length ≤ 1048576) : VFun Try.prog 76 [(eList cU8).enc b] [] rdP [some (bxP 1), some (bxP 2), some (rdR (b.take 2000) 0)] := by
  refine VFun_own (rin := []) (n := 7) (rs := [.tmp 2]) Try.func76 rfl rfl rfl rfl H_spec_l3Open ok_H_spec_l3Open (Nat.le_of_ble_eq_true rfl) (by kernel_rfl) ?_
  simp only [go_sem, ↓reduceIte, reduceCtorEq, Nat.reduceAdd, Nat.reduceMul, Nat.reduceEqDiff, Nat.reduceSub, Nat.reduceLT, Nat.reduceLeDiff, Nat.reduceAnd, Nat.reduceShiftRight, Nat.reduceBEq, Nat.reduceBNe, Nat.reduceBneDiff, Nat.reduceBeqDiff, Int.reduceToNat, Int.reduceLE, Int.reduceLT, Int.reduceEq]
  exact h
abbrev Ml3Open : FM := .g1 (eList cU8) (fun b => (rdP, [some (bxP 1), some (bxP 2), some (rdR (b.take 2000) 0)])) (fun b => b.length ≤ 1048576)
attribute [go_sem] Ml3Open
theorem ok_spec_l3Open : Ml3Open.ok Try.prog 76 := FM.g1_ok fun b h => f_l3Open b h

def H_spec_l4Open : Hint := { fs := [(76, Ml3Open)], kp := [(0, [0]), (1, [0])], an := [], own := true }
attribute [go_sem] H_spec_l4Open
theorem ok_H_spec_l4Open : H_spec_l4Open.ok Try.prog := AllOk.okR (.cons ok_spec_l3Open .nil) .nil mix
theorem f_l4Open (b : List UInt8) (h : b.length ≤ 1048576) : VFun Try.prog 30 [(eList cU8).enc b] [] rdP [some (bxP 1), some (bxP 2), some (bxP 3), some (rdR (b.take 2000) 0)] := by
  refine VFun_own (rin := []) (n := 7) (rs := [.tmp 2]) Try.func30 rfl rfl rfl rfl H_spec_l4Open ok_H_spec_l4Open (Nat.le_of_ble_eq_true rfl) (by kernel_rfl) ?_
  simp only [go_sem, ↓reduceIte, reduceCtorEq, Nat.reduceAdd, Nat.reduceMul, Nat.reduceEqDiff, Nat.reduceSub, Nat.reduceLT, Nat.reduceLeDiff, Nat.reduceAnd, Nat.reduceShiftRight, Nat.reduceBEq, Nat.reduceBNe, Nat.reduceBneDiff, Nat.reduceBeqDiff, Int.reduceToNat, Int.reduceLE, Int.reduceLT, Int.reduceEq]
  exact h
abbrev Ml4Open : FM := .g1 (eList cU8) (fun b => (rdP, [some (bxP 1), some (bxP 2), some (bxP 3), some (rdR (b.take 2000) 0)])) (fun b => b.length ≤ 1048576)
attribute [go_sem] Ml4Open
theorem ok_spec_l4Open : Ml4Open.ok Try.prog 30 := FM.g1_ok fun b h => f_l4Open b h

def H_spec_l2Rd_leaf : Hint := { fs := [], kp := [(0, [0]), (1, [0]), (2, []), (3, [0])], an := [], rs := [(32, RPick), (89, RMany), (90, RText)] }
attribute [go_sem] H_spec_l2Rd_leaf
theorem ok_H_spec_l2Rd_leaf : H_spec_l2Rd_leaf.ok Try.prog := AllOk.okR .nil (.cons ok_spec_l1Rd_pick (.cons ok_spec_l1Many (.cons ok_spec_l1Rd_text .nil))) mix
theorem f_leaf (b : List UInt8) (p : Int) (h0 : 0 ≤ p) (h1 : p + 10 ≤ rdM) : ∃ t : ByteArray × Int, (p ≤ t.2 ∧ t.2 ≤ p + 10 ∧ t.1.size ≤ 40) ∧ VFun Try.prog 49 [rdP] [some (bxP 1), some (rdR b p)] (eStr.enc t.1) [some (bxP 1), some (rdR b t.2)] := by
  unfold rdM at h1
  refine VFun_rel (n := 15) (rs := [.tmp 2]) Try.func49 rfl rfl rfl rfl H_spec_l2Rd_leaf ok_H_spec_l2Rd_leaf  (rin := [bxP 1, rdR b p]) (T := ByteArray × Int) eStr (fun t => t.1) (fun t => [some (bxP 1), some (rdR b t.2)]) (fun t => p ≤ t.2 ∧ t.2 ≤ p + 10 ∧ t.1.size ≤ 40) (Nat.le_of_ble_eq_true rfl) (by kernel_rfl) ?_
  simp only [go_sem, ↓reduceIte, reduceCtorEq, Nat.reduceAdd, Nat.reduceMul, Nat.reduceEqDiff, Nat.reduceSub, Nat.reduceLT, Nat.reduceLeDiff, Nat.reduceAnd, Nat.reduceShiftRight, Nat.reduceBEq, Nat.reduceBNe, Nat.reduceBneDiff, Nat.reduceBeqDiff, Int.reduceToNat, Int.reduceLE, Int.reduceLT, Int.reduceEq]
  refine ⟨⟨by omega, by omega⟩, fun v q g => ite_intro (fun c => fun t ht => ⟨(t, q), ⟨by dsimp only; omega, by dsimp only; omega, by dsimp only; omega⟩, rfl, rfl⟩) fun c => ⟨⟨by omega, by omega⟩, fun t q2 g2 => ⟨(t, q2), ⟨by dsimp only; omega, by dsimp only; omega, by dsimp only; omega⟩, rfl, rfl⟩⟩⟩
abbrev RLeaf : FR := .rl0 eStr.enc 10 (fun t => t.size ≤ 40)
attribute [go_sem] RLeaf
theorem ok_spec_l2Rd_leaf : RLeaf.ok Try.prog 49 := FR.rl0_ok fun b p h0 h1 => f_leaf b p h0 h1

def H_spec_l2Rd_size : Hint := { fs := [], kp := [(0, [0]), (1, [0]), (2, [0]), (3, [0])], an := [], rs := [(32, RPick)] }
attribute [go_sem] H_spec_l2Rd_size
theorem ok_H_spec_l2Rd_size : H_spec_l2Rd_size.ok Try.prog := AllOk.okR .nil (.cons ok_spec_l1Rd_pick .nil) mix
theorem f_size (b : List UInt8) (p : Int) (h0 : 0 ≤ p) (h1 : p + 2 ≤ rdM) : ∃ t : Int × Int, (p ≤ t.2 ∧ t.2 ≤ p + 2 ∧ 0 ≤ t.1 ∧ t.1 < 70) ∧ VFun Try.prog 78 [rdP] [some (bxP 1), some (rdR b p)] ((eInt .i64).enc t.1) [some (bxP 1), some (rdR b t.2)] := by
  unfold rdM at h1
  refine VFun_rel (n := 19) (rs := [.tmp 2]) Try.func78 rfl rfl rfl rfl H_spec_l2Rd_size ok_H_spec_l2Rd_size  (rin := [bxP 1, rdR b p]) (T := Int × Int) (eInt .i64) (fun t => t.1) (fun t => [some (bxP 1), some (rdR b t.2)]) (fun t => p ≤ t.2 ∧ t.2 ≤ p + 2 ∧ 0 ≤ t.1 ∧ t.1 < 70) (Nat.le_of_ble_eq_true rfl) (by kernel_rfl) ?_
  simp only [go_sem, ↓reduceIte, reduceCtorEq, Nat.reduceAdd, Nat.reduceMul, Nat.reduceEqDiff, Nat.reduceSub, Nat.reduceLT, Nat.reduceLeDiff, Nat.reduceAnd, Nat.reduceShiftRight, Nat.reduceBEq, Nat.reduceBNe, Nat.reduceBneDiff, Nat.reduceBeqDiff, Int.reduceToNat, Int.reduceLE, Int.reduceLT, Int.reduceEq]
  refine ⟨⟨by omega, by omega⟩, fun v q g => ite_intro (fun c => ⟨⟨by omega, by omega⟩, fun t q2 g2 => ⟨(t, q2), by dsimp only; omega, rfl, rfl⟩⟩) fun c => ⟨⟨by omega, by omega⟩, fun t q2 g2 => ⟨(t, q2), by dsimp only; omega, rfl, rfl⟩⟩⟩
abbrev RSize : FR := .rl0 (eInt .i64).enc 2 (fun t => 0 ≤ t ∧ t < 70)
attribute [go_sem] RSize
theorem ok_spec_l2Rd_size : RSize.ok Try.prog 78 := FR.rl0_ok fun b p h0 h1 => f_size b p h0 h1

def H_spec_l2Rd_leaves : Hint := { fs := [], kp := [(0, [0, 1]), (1, [0, 1]), (2, [0, 1, 5]), (3, [0, 1, 5, 6]), (5, [0, 1, 5, 6]), (4, [0, 1, 5, 6]), (6, [5])], an := [], rs := [(49, RLeaf)] }
attribute [go_sem] H_spec_l2Rd_leaves
theorem ok_H_spec_l2Rd_leaves : H_spec_l2Rd_leaves.ok Try.prog := AllOk.okR .nil (.cons ok_spec_l2Rd_leaf .nil) mix
theorem f_leaves (b : List UInt8) (p n : Int) (h0 : 0 ≤ p) (h1 : p + 10 * n ≤ rdM) (hn : 0 ≤ n ∧ n ≤ 71) : ∃ t : List ByteArray × Int, (p ≤ t.2 ∧ t.2 ≤ p + 10 * n ∧ (t.1.length : Int) = n ∧ ∀ x ∈ t.1, x.size ≤ 40) ∧ VFun Try.prog 77 [rdP, (eInt .i64).enc n] [some (bxP 1), some (rdR b p)] ((eList cStr).enc t.1) [some (bxP 1), some (rdR b t.2)] := by
  unfold rdM at h1
  refine VFun_rel (n := 19) (rs := [.tmp 4]) Try.func77 rfl rfl rfl rfl H_spec_l2Rd_leaves ok_H_spec_l2Rd_leaves  (rin := [bxP 1, rdR b p]) (T := List ByteArray × Int) (eList cStr) (fun t => t.1) (fun t => [some (bxP 1), some (rdR b t.2)]) (fun t => p ≤ t.2 ∧ t.2 ≤ p + 10 * n ∧ (t.1.length : Int) = n ∧ ∀ x ∈ t.1, x.size ≤ 40) (Nat.le_of_ble_eq_true rfl) (by kernel_rfl) ?_
  simp only [go_sem, ↓reduceIte, reduceCtorEq, Nat.reduceAdd, Nat.reduceMul, Nat.reduceEqDiff, Nat.reduceSub, Nat.reduceLT, Nat.reduceLeDiff, Nat.reduceAnd, Nat.reduceShiftRight, Nat.reduceBEq, Nat.reduceBNe, Nat.reduceBneDiff, Nat.reduceBeqDiff, Int.reduceToNat, Int.reduceLE, Int.reduceLT, Int.reduceEq]
  refine LoopV.go (H := H_spec_l2Rd_leaves) ok_H_spec_l2Rd_leaves (by kernel_rfl) (fun y : List ByteArray × Int => ⟨[(0, rdP), (1, sc (.int .i64 n)), (5, .x (.o (.h (1, 100) 0 y.1.length y.1.length))), (6, sc (.int .i64 y.1.length))], [((0, 0), bxP 1), ((0, 1), rdR b y.2), ((1, 100), .row 1 (y.1.map cStr.enc))], 2⟩) (fun y => n.toNat - y.1.length) (fun y => (y.1.length : Int) ≤ n ∧ p ≤ y.2 ∧ y.2 ≤ p + 10 * y.1.length ∧ ∀ x ∈ y.1, x.size ≤ 40) ?_ ([], p) ⟨by simp; omega, by dsimp only; omega, by simp, by simp⟩
  rintro ⟨xs, q⟩ ⟨j1, j2, j3, j4⟩
  dsimp only at j1 j2 j3 j4
  have w1 : IntKind.i64.wrap ((xs.length : Int) + 1) = ((xs.length + 1 : Nat) : Int) := by rw [wrap64] <;> omega
  by_cases hlt : (xs.length : Int) < n
  · simp only [go_sem, ↓reduceIte, reduceCtorEq, Nat.reduceAdd, Nat.reduceMul, Nat.reduceEqDiff, Nat.reduceSub, Nat.reduceLT, Nat.reduceLeDiff, Nat.reduceAnd, Nat.reduceShiftRight, Nat.reduceBEq, Nat.reduceBNe, Nat.reduceBneDiff, Nat.reduceBeqDiff, Int.reduceToNat, Int.reduceLE, Int.reduceLT, Int.reduceEq, hlt, w1]
    refine ⟨⟨by omega, by omega⟩, fun t q2 g2 => ⟨⟨by omega, by omega⟩, (xs ++ [t], q2), ⟨by simp; omega, by dsimp only; omega, by simp; omega, fun x hx => ?_⟩, by simp; omega, by simp [cStr]⟩⟩
    rcases List.mem_append.1 hx with h | h
    · exact j4 x h
    · rw [List.mem_singleton.1 h]; exact g2.2.2
  · simp only [go_sem, ↓reduceIte, reduceCtorEq, Nat.reduceAdd, Nat.reduceMul, Nat.reduceEqDiff, Nat.reduceSub, Nat.reduceLT, Nat.reduceLeDiff, Nat.reduceAnd, Nat.reduceShiftRight, Nat.reduceBEq, Nat.reduceBNe, Nat.reduceBneDiff, Nat.reduceBeqDiff, Int.reduceToNat, Int.reduceLE, Int.reduceLT, Int.reduceEq, hlt]
    exact ⟨(xs, q), ⟨by dsimp only; omega, by dsimp only; omega, by dsimp only; omega, j4⟩, rfl, rfl⟩
abbrev RLeaves : FR := .rl1 (eInt .i64) (eList cStr).enc (fun n => 10 * n) (fun n => 0 ≤ n ∧ n ≤ 71) (fun n t => (t.length : Int) = n ∧ ∀ x ∈ t, x.size ≤ 40)
attribute [go_sem] RLeaves
theorem ok_spec_l2Rd_leaves : RLeaves.ok Try.prog 77 := FR.rl1_ok fun b p n h0 h1 h2 => f_leaves b p n h0 h1 h2

abbrev eGrown := eT2 (eList cStr) (eInt .i64) (one_x _ _) (one_x _ _)
attribute [go_sem] eGrown
abbrev grownP (t : List ByteArray × Int) : Prop := 1 ≤ t.1.length ∧ t.1.length ≤ 71 ∧ (∀ x ∈ t.1, x.size ≤ 40) ∧ 0 ≤ t.2 ∧ t.2 ≤ t.1.length
def H_spec_l3Rd_grown : Hint := { fs := [], kp := [(0, [0]), (1, [0]), (2, [0, 4])], an := [(1, [0, 1, 3, 7, 0, 16, 48, 112, 240, 496, 1023, 2047])], rs := [(32, RPick), (77, RLeaves), (78, RSize)] }
attribute [go_sem] H_spec_l3Rd_grown
theorem ok_H_spec_l3Rd_grown : H_spec_l3Rd_grown.ok Try.prog := AllOk.okR .nil (.cons ok_spec_l1Rd_pick (.cons ok_spec_l2Rd_leaves (.cons ok_spec_l2Rd_size .nil))) mix
theorem f_grown (b : List UInt8) (p : Int) (h0 : 0 ≤ p) (h1 : p + 800 ≤ rdM) : ∃ t : (List ByteArray × Int) × Int, (p ≤ t.2 ∧ t.2 ≤ p + 800 ∧ grownP t.1) ∧ VFun Try.prog 31 [rdP] [some (bxP 1), some (bxP 2), some (rdR b p)] (eGrown.enc t.1) [some (bxP 1), some (bxP 2), some (rdR b t.2)] := by
  unfold rdM at h1
  refine VFun_rel (n := 28) (rs := [.tmp 2, .tmp 3]) Try.func31 rfl rfl rfl rfl H_spec_l3Rd_grown ok_H_spec_l3Rd_grown  (rin := [bxP 1, bxP 2, rdR b p]) (T := (List ByteArray × Int) × Int) eGrown (fun t => t.1) (fun t => [some (bxP 1), some (bxP 2), some (rdR b t.2)]) (fun t => p ≤ t.2 ∧ t.2 ≤ p + 800 ∧ grownP t.1) (Nat.le_of_ble_eq_true rfl) (by kernel_rfl) ?_
  simp only [go_sem, ↓reduceIte, reduceCtorEq, Nat.reduceAdd, Nat.reduceMul, Nat.reduceEqDiff, Nat.reduceSub, Nat.reduceLT, Nat.reduceLeDiff, Nat.reduceAnd, Nat.reduceShiftRight, Nat.reduceBEq, Nat.reduceBNe, Nat.reduceBneDiff, Nat.reduceBeqDiff, Int.reduceToNat, Int.reduceLE, Int.reduceLT, Int.reduceEq]
  refine ⟨⟨by omega, by omega⟩, fun v q g => ?_⟩
  have w1 : IntKind.i64.wrap (1 + v) = 1 + v := by rw [wrap64] <;> omega
  simp only [w1]
  refine ⟨⟨by omega, by omega, by omega, by omega⟩, fun l q2 g2 => ?_⟩
  obtain ⟨g21, g22, g23, g24⟩ := g2
  have w2 : IntKind.i64.wrap ((l.length : Int) + 1) = (l.length : Int) + 1 := by rw [wrap64] <;> omega
  simp only [w2]
  refine ⟨⟨by omega, by omega⟩, fun m q3 g3 => ⟨((l, m), q3), ⟨by dsimp only; omega, by dsimp only; omega, by dsimp only; omega, by dsimp only; omega, g24, by dsimp only; omega, by dsimp only; omega⟩, rfl, rfl⟩⟩
abbrev RGrown : FR := .rm0 eGrown.enc 800 grownP
attribute [go_sem] RGrown
theorem ok_spec_l3Rd_grown : RGrown.ok Try.prog 31 := FR.rm0_ok fun b p h0 h1 => f_grown b p h0 h1

def H_spec_l3Digests : Hint := { fs := [], kp := [(0, [0, 1]), (1, [0, 1]), (2, [0, 1, 5]), (3, [0, 1, 5, 6]), (5, [0, 1, 5, 6]), (4, [0, 1, 5, 6]), (6, [1, 5]), (7, [1, 5, 7]), (9, [1, 5, 7]), (8, [1, 5, 7]), (10, [5])], an := [], own := true }
attribute [go_sem] H_spec_l3Digests
theorem ok_H_spec_l3Digests : H_spec_l3Digests.ok Try.prog := AllOk.okR .nil .nil mix
theorem o_l3Digests (xs ys : List Digest) (hx : xs.length ≤ 100000) (hy : ys.length ≤ 100000) : VFun Try.prog 79 [(eList cDigest).enc xs, (eList cDigest).enc ys] [] (oL 0 (xs ++ ys)) [some (oR cDigest (xs ++ ys))] := by
  refine VFun_own (rin := []) (n := 36) (rs := [.tmp 4]) Try.func79 rfl rfl rfl rfl H_spec_l3Digests ok_H_spec_l3Digests (Nat.le_of_ble_eq_true rfl) (by kernel_rfl) ?_
  simp only [go_sem, ↓reduceIte, reduceCtorEq, Nat.reduceAdd, Nat.reduceMul, Nat.reduceEqDiff, Nat.reduceSub, Nat.reduceLT, Nat.reduceLeDiff, Nat.reduceAnd, Nat.reduceShiftRight, Nat.reduceBEq, Nat.reduceBNe, Nat.reduceBneDiff, Nat.reduceBeqDiff, Int.reduceToNat, Int.reduceLE, Int.reduceLT, Int.reduceEq]
  refine LoopV.go (H := H_spec_l3Digests) ok_H_spec_l3Digests (by kernel_rfl) (fun i : Nat => ⟨[(0, .x (.o (.c (.s (xs.map cDigest.enc))))), (1, .x (.o (.c (.s (ys.map cDigest.enc))))), (5, .x (.o (.h (1, 100) 0 (xs.take i).length (xs.take i).length))), (6, sc (.int .i64 i))], [((1, 100), .row 4 ((xs.take i).map cDigest.enc))], 2⟩) (fun i => xs.length - i) (fun i => i ≤ xs.length) ?_ 0 (Nat.zero_le _)
  intro i hi
  have ht : (xs.take i).length = i := by rw [List.length_take]; omega
  by_cases hlt : i < xs.length
  · obtain ⟨x, hx⟩ : ∃ r, xs[i]? = some r := ⟨_, List.getElem?_eq_getElem hlt⟩
    have hy : xs.take (i + 1) = xs.take i ++ [x] := by rw [List.take_add_one, hx]; rfl
    have w1 : IntKind.i64.wrap ((i : Int) + 1) = ((i + 1 : Nat) : Int) := by rw [wrap64] <;> omega
    have c1 : ((i : Int) < (xs.length : Int)) = True := eq_true (by omega)
    simp only [go_sem, ↓reduceIte, reduceCtorEq, Nat.reduceAdd, Nat.reduceMul, Nat.reduceEqDiff, Nat.reduceSub, Nat.reduceLT, Nat.reduceLeDiff, Nat.reduceAnd, Nat.reduceShiftRight, Nat.reduceBEq, Nat.reduceBNe, Nat.reduceBneDiff, Nat.reduceBeqDiff, Int.reduceToNat, Int.reduceLE, Int.reduceLT, Int.reduceEq, hx, w1, c1]
    exact ⟨⟨by omega, by omega⟩, i + 1, hlt, by omega, by rw [hy, List.length_append, List.map_append]; rfl⟩
  · have c1 : ((i : Int) < (xs.length : Int)) = False := eq_false (by omega)
    have htt : xs.take i = xs := List.take_of_length_le (by omega)
    simp only [go_sem, ↓reduceIte, reduceCtorEq, Nat.reduceAdd, Nat.reduceMul, Nat.reduceEqDiff, Nat.reduceSub, Nat.reduceLT, Nat.reduceLeDiff, Nat.reduceAnd, Nat.reduceShiftRight, Nat.reduceBEq, Nat.reduceBNe, Nat.reduceBneDiff, Nat.reduceBeqDiff, Int.reduceToNat, Int.reduceLE, Int.reduceLT, Int.reduceEq, c1, htt]
    refine LoopV.go (H := H_spec_l3Digests) ok_H_spec_l3Digests (by kernel_rfl) (fun j : Nat => ⟨[(1, .x (.o (.c (.s (ys.map cDigest.enc))))), (5, .x (.o (.h (1, 100) 0 (xs ++ ys.take j).length (xs ++ ys.take j).length))), (7, sc (.int .i64 j))], [((1, 100), .row 4 ((xs ++ ys.take j).map cDigest.enc))], 2⟩) (fun j => ys.length - j) (fun j => j ≤ ys.length) ?_ 0 (Nat.zero_le _) (by simp [sc])
    intro j hj
    have ht : (xs ++ ys.take j).length = xs.length + j := by rw [List.length_append, List.length_take]; omega
    by_cases hlt : j < ys.length
    · obtain ⟨x, hx⟩ : ∃ r, ys[j]? = some r := ⟨_, List.getElem?_eq_getElem hlt⟩
      have hy2 : xs ++ ys.take (j + 1) = xs ++ ys.take j ++ [x] := by rw [List.take_add_one, hx, List.append_assoc]; rfl
      have w1 : IntKind.i64.wrap ((j : Int) + 1) = ((j + 1 : Nat) : Int) := by rw [wrap64] <;> omega
      have c1 : ((j : Int) < (ys.length : Int)) = True := eq_true (by omega)
      generalize xs ++ ys.take j = zs at ht hy2 ⊢
      simp only [go_sem, ↓reduceIte, reduceCtorEq, Nat.reduceAdd, Nat.reduceMul, Nat.reduceEqDiff, Nat.reduceSub, Nat.reduceLT, Nat.reduceLeDiff, Nat.reduceAnd, Nat.reduceShiftRight, Nat.reduceBEq, Nat.reduceBNe, Nat.reduceBneDiff, Nat.reduceBeqDiff, Int.reduceToNat, Int.reduceLE, Int.reduceLT, Int.reduceEq, hx, w1, c1]
      exact ⟨⟨by omega, by omega⟩, j + 1, hlt, by omega, by rw [hy2, show xs.length + (ys.take (j + 1)).length = zs.length + 1 by rw [List.length_take]; omega, List.map_append]; rfl⟩
    · have c1 : ((j : Int) < (ys.length : Int)) = False := eq_false (by omega)
      have htt : xs ++ ys.take j = xs ++ ys := by rw [List.take_of_length_le (by omega)]
      rw [htt]
      simp only [go_sem, ↓reduceIte, reduceCtorEq, Nat.reduceAdd, Nat.reduceMul, Nat.reduceEqDiff, Nat.reduceSub, Nat.reduceLT, Nat.reduceLeDiff, Nat.reduceAnd, Nat.reduceShiftRight, Nat.reduceBEq, Nat.reduceBNe, Nat.reduceBneDiff, Nat.reduceBeqDiff, Int.reduceToNat, Int.reduceLE, Int.reduceLT, Int.reduceEq, c1]
abbrev ODigests : FM := .g2 (eList cDigest) (eList cDigest) (fun xs ys => (oL 0 (xs ++ ys), [some (oR cDigest (xs ++ ys))])) (fun xs ys => xs.length ≤ 100000 ∧ ys.length ≤ 100000)
attribute [go_sem] ODigests
theorem ok_spec_l3Digests : ODigests.ok Try.prog 79 := FM.g2_ok fun xs ys h => o_l3Digests xs ys h.1 h.2

/-- A path that is drawn: own, and not longer than there are leaves. -/
abbrev RPathN (N : Nat) : FR where
  md := []
  m args rin := match args, rin with
    | [e1, e2], [] => match (eList cStr).dec e1, (eInt .i64).dec e2 with
      | some l, some i => some (l.length < N ∧ (1 ≤ l.length ∧ l.length ≤ 256) ∧ (∀ x ∈ l, x.size ≤ 40) ∧ (0 ≤ i ∧ i < l.length), fun k => ∀ xs : List Digest, xs.length ≤ l.length → k (oL 0 xs) [some (oR cDigest xs)])
      | _, _ => none
    | _, _ => none
attribute [go_sem] RPathN
theorem RPathN_ok {P : Program} {g : FuncId} {N : Nat} (h : ∀ (l : List ByteArray) (i : Int), l.length < N ∧ (1 ≤ l.length ∧ l.length ≤ 256) ∧ (∀ x ∈ l, x.size ≤ 40) ∧ (0 ≤ i ∧ i < l.length) → ∃ xs : List Digest, xs.length ≤ l.length ∧ VFun P g [(eList cStr).enc l, (eInt .i64).enc i] [] (oL 0 xs) [some (oR cDigest xs)]) : (RPathN N).ok P g := by
  intro args rin pr W hm hp k hk
  simp only [RPathN] at hm
  split at hm
  · split at hm
    · rename_i e1 e2 _ _ l i h1 h2
      cases hm
      obtain ⟨t, h6, h7⟩ := h l i hp
      exact ⟨_, _, h7.weaken (.cons (CE.ok _ _ _ h1) (.cons (CE.ok _ _ _ h2) .nil)), hk t h6⟩
    · cases hm
  · cases hm

def H_spec_l3Path (N : Nat) : Hint := { fs := [(80, MSplit), (81, MRoot)], kp := [(0, [0, 1]), (1, [0, 1]), (2, []), (3, [0, 1]), (4, [0, 1, 5]), (5, [0, 1, 5]), (6, [0, 1, 5])], an := [(5, [0, 0, 3, 0, 15, 0, 0, 96, 255, 511, 1023, 2047]), (6, [0, 0, 3, 0, 0, 24, 63, 0, 0, 384, 1023, 2047, 4095, 8191])], rs := [(34, (RPathN N))], own := true }
attribute [go_sem] H_spec_l3Path
theorem ok_H_spec_l3Path (N : Nat) (ih : (RPathN N).ok Try.prog 34) : (H_spec_l3Path N).ok Try.prog := AllOk.okR (.cons ok_spec_TreeSplit (.cons ok_l2Root .nil)) (.cons ih .nil) mix
theorem f_l3Path : ∀ (N : Nat) (l : List ByteArray) (i : Int), l.length < N ∧ (1 ≤ l.length ∧ l.length ≤ 256) ∧ (∀ x ∈ l, x.size ≤ 40) ∧ (0 ≤ i ∧ i < l.length) → ∃ xs : List Digest, xs.length ≤ l.length ∧ VFun Try.prog 34 [(eList cStr).enc l, (eInt .i64).enc i] [] (oL 0 xs) [some (oR cDigest xs)]
  | 0, l, i, h => absurd h.1 (by omega)
  | N + 1, l, i, h => by
    have ih : (RPathN N).ok Try.prog 34 := RPathN_ok fun l i h => f_l3Path N l i h
    obtain ⟨h0, h1, h2, h3⟩ := h
    obtain ⟨i, rfl⟩ := Int.eq_ofNat_of_zero_le h3.1
    refine VFun_relE (n := 40) (rs := [.tmp 4]) Try.func34 rfl rfl rfl rfl (H_spec_l3Path N) (ok_H_spec_l3Path N ih)  (rin := []) (T := List Digest) (fun xs => oL 0 xs) (fun xs => [some (oR cDigest xs)]) (fun xs => xs.length ≤ l.length) (Nat.le_of_ble_eq_true rfl) (by kernel_rfl) ?_
    by_cases hm : 2 ≤ l.length
    · have s1 := splitN_lt hm
      have s2 := splitN_pos l.length
      have s3 := splitM_in hm (by omega)
      have c1 : ((l.length : Int) < 2) = False := eq_false (by omega)
      by_cases hj : i < splitN l.length
      · have c2 : ((i : Int) < ((splitN l.length : Nat) : Int)) = True := eq_true (by omega)
        have htl : (l.take (splitN l.length)).length = splitN l.length := by rw [List.length_take]; omega
        simp only [go_sem, ↓reduceIte, reduceCtorEq, Nat.reduceAdd, Nat.reduceMul, Nat.reduceEqDiff, Nat.reduceSub, Nat.reduceLT, Nat.reduceLeDiff, Nat.reduceAnd, Nat.reduceShiftRight, Nat.reduceBEq, Nat.reduceBNe, Nat.reduceBneDiff, Nat.reduceBeqDiff, Int.reduceToNat, Int.reduceLE, Int.reduceLT, Int.reduceEq, c1, s3, c2]
        refine ⟨by omega, ⟨by omega, ⟨by omega, by omega⟩, fun x hx => h2 x (List.mem_of_mem_take hx), by omega⟩, fun xs hxs => ⟨⟨by omega, by omega⟩, ⟨by omega, fun x hx => h2 x (List.mem_of_mem_drop hx)⟩, ⟨by omega, by omega⟩, xs ++ [rootM (l.drop (splitN l.length))], ?_, ?_, ?_⟩⟩
        · rw [List.length_append, List.length_singleton]; omega
        · rw [List.length_append]; rfl
        · rw [List.map_append]; rfl
      · have c2 : ((i : Int) < ((splitN l.length : Nat) : Int)) = False := eq_false (by omega)
        have w3 : IntKind.i64.wrap ((i : Int) - ((splitN l.length : Nat) : Int)) = ((i - splitN l.length : Nat) : Int) := by rw [wrap64] <;> omega
        have htl : (l.take (splitN l.length)).length = splitN l.length := by rw [List.length_take]; omega
        simp only [go_sem, ↓reduceIte, reduceCtorEq, Nat.reduceAdd, Nat.reduceMul, Nat.reduceEqDiff, Nat.reduceSub, Nat.reduceLT, Nat.reduceLeDiff, Nat.reduceAnd, Nat.reduceShiftRight, Nat.reduceBEq, Nat.reduceBNe, Nat.reduceBneDiff, Nat.reduceBeqDiff, Int.reduceToNat, Int.reduceLE, Int.reduceLT, Int.reduceEq, c1, s3, c2, w3]
        refine ⟨⟨by omega, by omega⟩, ⟨by omega, ⟨by omega, by omega⟩, fun x hx => h2 x (List.mem_of_mem_drop hx), by omega⟩, fun xs hxs => ⟨by omega, ⟨by omega, fun x hx => h2 x (List.mem_of_mem_take hx)⟩, ⟨by omega, by omega⟩, xs ++ [rootM (l.take (splitN l.length))], ?_, ?_, ?_⟩⟩
        · rw [List.length_append, List.length_singleton]; omega
        · rw [List.length_append]; rfl
        · rw [List.map_append]; rfl
    · have c1 : ((l.length : Int) < 2) = True := eq_true (by omega)
      simp only [go_sem, ↓reduceIte, reduceCtorEq, Nat.reduceAdd, Nat.reduceMul, Nat.reduceEqDiff, Nat.reduceSub, Nat.reduceLT, Nat.reduceLeDiff, Nat.reduceAnd, Nat.reduceShiftRight, Nat.reduceBEq, Nat.reduceBNe, Nat.reduceBneDiff, Nat.reduceBeqDiff, Int.reduceToNat, Int.reduceLE, Int.reduceLT, Int.reduceEq, c1]
      exact ⟨[], Nat.zero_le _, rfl, rfl⟩
abbrev RPath : FR where
  md := []
  m args rin := match args, rin with
    | [e1, e2], [] => match (eList cStr).dec e1, (eInt .i64).dec e2 with
      | some l, some i => some ((1 ≤ l.length ∧ l.length ≤ 256) ∧ (∀ x ∈ l, x.size ≤ 40) ∧ (0 ≤ i ∧ i < l.length), fun k => ∀ xs : List Digest, xs.length ≤ l.length → k (oL 0 xs) [some (oR cDigest xs)])
      | _, _ => none
    | _, _ => none
attribute [go_sem] RPath
theorem ok_spec_l3Path : RPath.ok Try.prog 34 := by
  intro args rin pr W hm hp k hk
  simp only [RPath] at hm
  split at hm
  · split at hm
    · rename_i e1 e2 _ _ l i h1 h2
      cases hm
      obtain ⟨t, h6, h7⟩ := f_l3Path (l.length + 1) l i ⟨by omega, hp⟩
      exact ⟨_, _, h7.weaken (.cons (CE.ok _ _ _ h1) (.cons (CE.ok _ _ _ h2) .nil)), hk t h6⟩
    · cases hm
  · cases hm

def H_spec_l3Rd_bent : Hint := { fs := [(79, ODigests)], kp := [(0, [0, 1]), (1, [0, 1]), (2, [0, 5]), (3, [0, 5, 6]), (4, [0, 5]), (5, [0, 5, 6]), (6, [5]), (7, [0, 5, 6]), (8, [0, 5]), (9, [5])], an := [(8, [0, 0, 2, 6, 14, 30, 62, 126, 0, 256, 1022, 0, 2048, 6144, 14336, 30720, 63488, 129024, 262142, 524287, 1048575])], rs := [(32, RPick), (57, RDigest)] }
attribute [go_sem] H_spec_l3Rd_bent
theorem ok_H_spec_l3Rd_bent : H_spec_l3Rd_bent.ok Try.prog := AllOk.okR (.cons ok_spec_l3Digests .nil) (.cons ok_spec_l1Rd_pick (.cons ok_spec_l1Rd_digest .nil)) mix
theorem f_bent (b : List UInt8) (p : Int) (l : List Digest) (h0 : 0 ≤ p) (h1 : p + 60 ≤ rdM) (hl : l.length ≤ 1000) : ∃ t : List Digest × Int, (p ≤ t.2 ∧ t.2 ≤ p + 60 ∧ t.1.length ≤ l.length + 1) ∧ VFun Try.prog 33 [rdP, (eList cDigest).enc l] [some (bxP 1), some (bxP 2), some (rdR b p)] ((eList cDigest).enc t.1) [some (bxP 1), some (bxP 2), some (rdR b t.2)] := by
  unfold rdM at h1
  refine VFun_rel (n := 71) (rs := [.tmp 4]) Try.func33 rfl rfl rfl rfl H_spec_l3Rd_bent ok_H_spec_l3Rd_bent  (rin := [bxP 1, bxP 2, rdR b p]) (T := List Digest × Int) (eList cDigest) (fun t => t.1) (fun t => [some (bxP 1), some (bxP 2), some (rdR b t.2)]) (fun t => p ≤ t.2 ∧ t.2 ≤ p + 60 ∧ t.1.length ≤ l.length + 1) (Nat.le_of_ble_eq_true rfl) (by kernel_rfl) ?_
  simp only [go_sem, ↓reduceIte, reduceCtorEq, Nat.reduceAdd, Nat.reduceMul, Nat.reduceEqDiff, Nat.reduceSub, Nat.reduceLT, Nat.reduceLeDiff, Nat.reduceAnd, Nat.reduceShiftRight, Nat.reduceBEq, Nat.reduceBNe, Nat.reduceBneDiff, Nat.reduceBeqDiff, Int.reduceToNat, Int.reduceLE, Int.reduceLT, Int.reduceEq, List.append_nil, Nat.add_zero]
  refine ⟨by omega, ⟨by omega, by omega⟩, fun v q g => ite_intro (fun c => ⟨⟨by omega, by omega⟩, fun d q2 g2 => ⟨⟨by omega, by omega⟩, (l ++ [d], q2), ⟨by dsimp only; omega, by dsimp only; omega, by simp⟩, rfl, rfl⟩⟩) fun c => ?_⟩
  by_cases hl0 : 0 < (l.length : Int)
  · refine ite_intro (fun c1 => ite_intro (fun _ => ?_) fun c2 => absurd hl0 c2) fun c1 => ite_intro (fun c3 => ite_intro (fun _ => ?_) fun c4 => absurd hl0 c4) fun c3 => ?_
    · have w1 : IntKind.i64.wrap ((l.length : Int) - 1) = ((l.length - 1 : Nat) : Int) := by rw [wrap64] <;> omega
      rw [w1, Int.toNat_natCast]
      exact ⟨⟨by omega, by omega⟩, (l.take (l.length - 1), q), ⟨by dsimp only; omega, by dsimp only; omega, by rw [List.length_take]; omega⟩, rfl, rfl⟩
    · refine ⟨⟨by omega, by omega⟩, fun k q2 g2 => ⟨⟨by omega, by omega⟩, fun d q3 g3 => ?_⟩⟩
      obtain ⟨k, rfl⟩ := Int.eq_ofNat_of_zero_le g2.2.2.1
      have hk : k < l.length := by omega
      obtain ⟨x, hx⟩ : ∃ r, l[k]? = some r := ⟨_, List.getElem?_eq_getElem hk⟩
      have hs : (l.map cDigest.enc).set k [.v (.int .u64 d.1.toNat), .v (.int .u64 d.2.1.toNat), .v (.int .u64 d.2.2.1.toNat), .v (.int .u64 d.2.2.2.toNat)] = (l.set k d).map cDigest.enc := by rw [List.map_set]; rfl
      simp only [go_sem, ↓reduceIte, reduceCtorEq, Nat.reduceAdd, Nat.reduceMul, Nat.reduceEqDiff, Nat.reduceSub, Nat.reduceLT, Nat.reduceLeDiff, Nat.reduceAnd, Nat.reduceShiftRight, Nat.reduceBEq, Nat.reduceBNe, Nat.reduceBneDiff, Nat.reduceBeqDiff, Int.reduceToNat, Int.reduceLE, Int.reduceLT, Int.reduceEq, Int.toNat_natCast, hx, hs, List.length_set, List.append_nil, Nat.add_zero, eq_true hk]
      exact ⟨(l.set k d, q3), ⟨by dsimp only; omega, by dsimp only; omega, by rw [List.length_set]; omega⟩, rfl, rfl⟩
    · exact ⟨(l, q), ⟨by dsimp only; omega, by dsimp only; omega, by dsimp only; omega⟩, rfl, rfl⟩
  · refine ite_intro (fun c1 => ite_intro (fun c2 => absurd c2 hl0) fun c2 => ite_intro (fun c3 => ite_intro (fun c4 => absurd c4 hl0) fun _ => ?_) fun c3 => ?_) fun c1 => ite_intro (fun c3 => ite_intro (fun c4 => absurd c4 hl0) fun _ => ?_) fun c3 => ?_
    all_goals exact ⟨(l, q), ⟨by dsimp only; omega, by dsimp only; omega, by dsimp only; omega⟩, rfl, rfl⟩
abbrev RBent : FR := .rm1 (eList cDigest) (eList cDigest).enc (fun _ => 60) (fun l => l.length ≤ 1000) (fun l t => t.length ≤ l.length + 1)
attribute [go_sem] RBent
theorem ok_spec_l3Rd_bent : RBent.ok Try.prog 33 := FR.rm1_ok fun b p l h0 h1 h2 => f_bent b p l h0 h1 h2

/-- What is drawn by a code, said of its encoding. -/
abbrev FR.drE {R : Type} (r : R → E) (post : R → Prop) : FR where
  md := []
  m args rin := match args, rin with
    | [e1], [] => match (eList cU8).dec e1 with
      | some b => some (b.length ≤ 1048576, fun k => ∀ v, post v → k (r v) [])
      | none => none
    | _, _ => none
theorem FR.drE_ok {P : Program} {g : FuncId} {R : Type} {r : R → E} {post : R → Prop} (h : ∀ (b : List UInt8), b.length ≤ 1048576 → ∃ v : R, post v ∧ VFun P g [(eList cU8).enc b] [] (r v) []) : (FR.drE r post).ok P g := by
  intro args rin pre W hm hp k hk
  simp only [FR.drE] at hm
  split at hm
  · split at hm
    · rename_i h1
      cases hm
      obtain ⟨v, h3, h4⟩ := h _ hp
      exact ⟨_, _, h4.weaken (.cons (CE.ok _ _ _ h1) .nil), hk _ h3⟩
    · cases hm
  · cases hm
abbrev Row4 := Int × Int × ByteArray × List Digest
abbrev row4E (t : Row4) : E := .t [.o (.c (.v (.int .i64 t.1))), .o (.c (.v (.int .i64 t.2.1))), .o (.c (.v (.string t.2.2.1))), .o (.c (.s (t.2.2.2.map cDigest.enc)))]
attribute [go_sem] row4E

end Go.Proofs.YtcgkhljolflenaaW.V

