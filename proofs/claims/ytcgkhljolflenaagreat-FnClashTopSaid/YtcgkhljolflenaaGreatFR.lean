/- The reader of draws: of what it answers only the bounds are said. No condition but each theorem's own. -/
import Derived.Test.YtcgkhljolflenaaGreatFC
import Derived.Test.YtcgkhljolflenaaGreatVCe
namespace Go.Proofs.YtcgkhljolflenaaGreatW.V
open Go Go.Proofs
set_option linter.unusedSimpArgs false
set_option linter.unusedVariables false
set_option maxRecDepth 8000
set_option maxHeartbeats 4000000


abbrev rdP : E := .x (.o (.p (0, 0) 0 0 1))
def rdR (b : List UInt8) (p : Int) : Root := .bx [[.c (.s (b.map cU8.enc)), .c (.v (.int .i64 p))]]
attribute [go_sem] rdR
abbrev rdM : Int := 1000000000000000
attribute [go_sem] rdM
/-- A method of the reader without further arguments, with one, with two: it goes on by at most K. -/
abbrev FR.rd0 {R : Type} (r : R → E) (K : Int) (post : R → Prop) : FR where
  md := []
  m args rin := match args, rin with
    | [.x (.o (.p (0, 0) 0 0 1))], [.bx [[.c (.s rows), .c (.v (.int .i64 p))]]] => match mapO cU8.dec rows with
      | some b => some (rows = b.map cU8.enc ∧ 0 ≤ p ∧ p + K ≤ rdM, fun k => ∀ v q, p ≤ q ∧ q ≤ p + K ∧ post v → k (r v) [some (rdR b q)])
      | none => none
    | _, _ => none
abbrev FR.rd1 {X R : Type} (a : CE X) (r : R → E) (K : X → Int) (pre : X → Prop) (post : X → R → Prop) : FR where
  md := []
  m args rin := match args, rin with
    | [.x (.o (.p (0, 0) 0 0 1)), e2], [.bx [[.c (.s rows), .c (.v (.int .i64 p))]]] => match mapO cU8.dec rows, a.dec e2 with
      | some b, some x => some (rows = b.map cU8.enc ∧ 0 ≤ p ∧ p + K x ≤ rdM ∧ pre x, fun k => ∀ v q, p ≤ q ∧ q ≤ p + K x ∧ post x v → k (r v) [some (rdR b q)])
      | _, _ => none
    | _, _ => none
theorem FR.rd0_ok {P : Program} {g : FuncId} {R : Type} {r : R → E} {K : Int} {post : R → Prop} (h : ∀ (b : List UInt8) (p : Int), 0 ≤ p → p + K ≤ rdM → ∃ t : R × Int, (p ≤ t.2 ∧ t.2 ≤ p + K ∧ post t.1) ∧ VFun P g [rdP] [some (rdR b p)] (r t.1) [some (rdR b t.2)]) : (FR.rd0 r K post).ok P g := by
  intro args rin pre W hm hp k hk
  simp only [FR.rd0] at hm
  split at hm
  · split at hm
    · cases hm
      obtain ⟨e, h1, h2⟩ := hp
      subst e
      obtain ⟨t, h3, h4⟩ := h _ _ h1 h2
      exact ⟨_, _, h4, hk _ _ h3⟩
    · cases hm
  · cases hm
theorem FR.rd1_ok {P : Program} {g : FuncId} {X R : Type} {a : CE X} {r : R → E} {K : X → Int} {pre : X → Prop} {post : X → R → Prop} (h : ∀ (b : List UInt8) (p : Int) (x : X), 0 ≤ p → p + K x ≤ rdM → pre x → ∃ t : R × Int, (p ≤ t.2 ∧ t.2 ≤ p + K x ∧ post x t.1) ∧ VFun P g [rdP, a.enc x] [some (rdR b p)] (r t.1) [some (rdR b t.2)]) : (FR.rd1 a r K pre post).ok P g := by
  intro args rin pr W hm hp k hk
  simp only [FR.rd1] at hm
  split at hm
  · split at hm
    · rename_i e2 rows p _ _ b x h1 h2
      cases hm
      obtain ⟨e, h3, h4, h5⟩ := hp
      subst e
      obtain ⟨t, h6, h7⟩ := h b p x h3 h4 h5
      exact ⟨_, _, h7.weaken (.cons (fun _ _ _ _ _ h => h) (.cons (a.ok _ _ h2) .nil)), hk _ _ h6⟩
    · cases hm
  · cases hm

theorem xor_nn {m n : Int} (h0 : 0 ≤ m) (h1 : m < 9223372036854775808) (h2 : 0 ≤ n) (h3 : n < 9223372036854775808) : 0 ≤ xorI .i64 m n := by
  show 0 ≤ IntKind.i64.wrap ((BitVec.ofInt 64 m ^^^ BitVec.ofInt 64 n).toNat : Nat)
  obtain ⟨a, rfl⟩ := Int.eq_ofNat_of_zero_le h0
  obtain ⟨b, rfl⟩ := Int.eq_ofNat_of_zero_le h2
  have e : (BitVec.ofInt 64 (a : Int) ^^^ BitVec.ofInt 64 (b : Int)).toNat = a ^^^ b := by
    rw [BitVec.toNat_xor]
    simp only [BitVec.toNat_ofInt]
    congr 1 <;> omega
  have h4 : a ^^^ b < 2 ^ 63 := Nat.xor_lt_two_pow (by omega) (by omega)
  rw [e, wrap64] <;> omega

def H_spec_l1Rd_pick : Hint := { fs := [], kp := [(0, [0, 1]), (1, [0, 1]), (2, [0, 1]), (3, []), (4, [0, 1]), (5, [0, 1, 5]), (6, [0, 1, 5]), (7, [0, 1, 5]), (8, [1, 6]), (9, [1, 6])], an := [(7, [0, 1, 3, 7, 0, 0, 32, 96, 224, 480, 1008, 2047, 4095, 8191, 16383, 0, 32768, 98304, 229376, 0, 524288, 1572864, 0, 4194304, 12582912, 29360128, 62914560, 133693440, 268402688, 536838144, 1073709056, 2147450880, 4294967295, 0, 8589934592, 34359738367, 0, 0, 137438953472, 412316860416, 962072674304, 2061584302080, 4329327034368, 8727373545472, 17592186044415, 35184372088831])] }
attribute [go_sem] H_spec_l1Rd_pick
theorem ok_H_spec_l1Rd_pick : H_spec_l1Rd_pick.ok Tryz.prog := AllOk.okR .nil .nil mix
theorem f_pick (b : List UInt8) (p n : Int) (h0 : 0 ≤ p) (h1 : p + 1 ≤ rdM) : ∃ t : Int × Int, (p ≤ t.2 ∧ t.2 ≤ p + 1 ∧ 0 ≤ t.1 ∧ (1 ≤ n → t.1 < n) ∧ (n < 1 → t.1 = 0)) ∧ VFun Tryz.prog 16 [rdP, (eInt .i64).enc n] [some (rdR b p)] ((eInt .i64).enc t.1) [some (rdR b t.2)] := by
  unfold rdM at h1
  have e1 : IntKind.i64.wrap (p + 1) = p + 1 := wrap64 (by omega) (by omega)
  have e2 : IntKind.i64.wrap (p + 1 - 1) = p := by rw [wrap64] <;> omega
  refine VFun_rel (n := 99) (rs := [.tmp 4]) Tryz.func16 rfl rfl rfl rfl H_spec_l1Rd_pick ok_H_spec_l1Rd_pick  (rin := [rdR b p]) (T := Int × Int) (eInt .i64) (fun t => t.1) (fun t => [some (rdR b t.2)]) (fun t => p ≤ t.2 ∧ t.2 ≤ p + 1 ∧ 0 ≤ t.1 ∧ (1 ≤ n → t.1 < n) ∧ (n < 1 → t.1 = 0)) (Nat.le_of_ble_eq_true rfl) (by kernel_rfl) ?_
  by_cases hn : n < 1
  · simp only [go_sem, ↓reduceIte, reduceCtorEq, Nat.reduceAdd, Nat.reduceMul, Nat.reduceEqDiff, Nat.reduceSub, Nat.reduceLT, Nat.reduceLeDiff, Nat.reduceAnd, Nat.reduceShiftRight, Nat.reduceBEq, Nat.reduceBNe, Nat.reduceBneDiff, Nat.reduceBeqDiff, Int.reduceToNat, Int.reduceLE, Int.reduceLT, Int.reduceEq, e1, e2, hn]
    refine ⟨(0, p + 1), ?_, rfl, rfl⟩
    dsimp only
    omega
  by_cases hb : b.length = 0
  · have hb' : ((b.length : Int) = 0) = True := by simp [hb]
    simp only [go_sem, ↓reduceIte, reduceCtorEq, Nat.reduceAdd, Nat.reduceMul, Nat.reduceEqDiff, Nat.reduceSub, Nat.reduceLT, Nat.reduceLeDiff, Nat.reduceAnd, Nat.reduceShiftRight, Nat.reduceBEq, Nat.reduceBNe, Nat.reduceBneDiff, Nat.reduceBeqDiff, Int.reduceToNat, Int.reduceLE, Int.reduceLT, Int.reduceEq, e1, e2, hn, hb']
    refine ⟨(0, p + 1), ?_, rfl, rfl⟩
    dsimp only
    omega
  have hb' : ((b.length : Int) = 0) = False := eq_false (by omega)
  obtain ⟨q, rfl⟩ := Int.eq_ofNat_of_zero_le h0
  have dv : ∀ y : Int, 0 ≤ y → 0 ≤ y.tmod n ∧ y.tmod n < n := fun y hy => ⟨Int.tmod_nonneg _ hy, Int.tmod_lt_of_pos _ (by omega)⟩
  by_cases hq : q < b.length
  · have hx : b[q]? = some b[q] := List.getElem?_eq_getElem hq
    have hq' : ((q : Int) < (b.length : Int)) = True := by simp; omega
    have hu : IntKind.i64.wrap (b[q].toNat : Int) = (b[q].toNat : Int) := by have := b[q].toNat_lt; rw [wrap64] <;> omega
    simp only [go_sem, ↓reduceIte, reduceCtorEq, Nat.reduceAdd, Nat.reduceMul, Nat.reduceEqDiff, Nat.reduceSub, Nat.reduceLT, Nat.reduceLeDiff, Nat.reduceAnd, Nat.reduceShiftRight, Nat.reduceBEq, Nat.reduceBNe, Nat.reduceBneDiff, Nat.reduceBeqDiff, Int.reduceToNat, Int.reduceLE, Int.reduceLT, Int.reduceEq, e1, e2, hn, hb', hq', hx, hu]
    have := dv (b[q].toNat : Int) (Int.natCast_nonneg _)
    exact ⟨by omega, ((b[q].toNat : Int).tmod n, q + 1), by simp only; (repeat' apply And.intro) <;> (intros; omega), rfl, rfl⟩
  · have hq' : ((q : Int) < (b.length : Int)) = False := by simp; omega
    have i1 : q % b.length < b.length := Nat.mod_lt _ (by omega)
    have i2 : (q * 7 + 3) % b.length < b.length := Nat.mod_lt _ (by omega)
    have hx1 : b[q % b.length]? = some b[q % b.length] := List.getElem?_eq_getElem i1
    have hx2 : b[(q * 7 + 3) % b.length]? = some b[(q * 7 + 3) % b.length] := List.getElem?_eq_getElem i2
    have y1 := b[q % b.length].toNat_lt
    have y2 := b[(q * 7 + 3) % b.length].toNat_lt
    generalize b[q % b.length] = y1' at hx1 y1
    generalize b[(q * 7 + 3) % b.length] = y2' at hx2 y2
    have t1 : (q : Int).tmod (b.length : Int) = ((q % b.length : Nat) : Int) := by rw [Int.tmod_eq_emod_of_nonneg (by omega)]; simp
    have t2 : ((q * 7 + 3 : Nat) : Int).tmod (b.length : Int) = (((q * 7 + 3) % b.length : Nat) : Int) := by rw [Int.tmod_eq_emod_of_nonneg (by omega)]; simp
    have t3 : (q : Int).tdiv (b.length : Int) = ((q / b.length : Nat) : Int) := by rw [Int.tdiv_eq_ediv_of_nonneg (by omega)]; simp
    have q3 : q / b.length ≤ q := Nat.div_le_self _ _
    generalize q / b.length = d at t3 q3
    have w0 : IntKind.i64.wrap (d : Int) = (d : Int) := by rw [wrap64] <;> omega
    have w1 : IntKind.i64.wrap ((q : Int) * 7) = ((q * 7 : Nat) : Int) := by rw [wrap64] <;> omega
    have w2 : IntKind.i64.wrap (((q * 7 : Nat) : Int) + 3) = ((q * 7 + 3 : Nat) : Int) := by rw [wrap64] <;> omega
    have w3 : IntKind.i64.wrap (y1'.toNat : Int) = (y1'.toNat : Int) := by rw [wrap64] <;> omega
    have w4 : IntKind.i64.wrap (y2'.toNat : Int) = (y2'.toNat : Int) := by rw [wrap64] <;> omega
    have w5 : IntKind.i64.wrap ((y1'.toNat : Int) * 131) = (y1'.toNat : Int) * 131 := by rw [wrap64] <;> omega
    have w6 : IntKind.i64.wrap ((y2'.toNat : Int) * 1117) = (y2'.toNat : Int) * 1117 := by rw [wrap64] <;> omega
    have w7 : IntKind.i64.wrap ((y1'.toNat : Int) * 131 + (y2'.toNat : Int) * 1117) = (y1'.toNat : Int) * 131 + (y2'.toNat : Int) * 1117 := by rw [wrap64] <;> omega
    have w8 : IntKind.i64.wrap ((q : Int) * 29) = (q : Int) * 29 := by rw [wrap64] <;> omega
    have w9 : IntKind.i64.wrap ((y1'.toNat : Int) * 131 + (y2'.toNat : Int) * 1117 + (q : Int) * 29) = (y1'.toNat : Int) * 131 + (y2'.toNat : Int) * 1117 + (q : Int) * 29 := by rw [wrap64] <;> omega
    have w10 : IntKind.i64.wrap ((d : Int) * 53) = (d : Int) * 53 := by rw [wrap64] <;> omega
    have w11 : IntKind.i64.wrap ((y1'.toNat : Int) * 131 + (y2'.toNat : Int) * 1117 + (q : Int) * 29 + (d : Int) * 53) = (y1'.toNat : Int) * 131 + (y2'.toNat : Int) * 1117 + (q : Int) * 29 + (d : Int) * 53 := by rw [wrap64] <;> omega
    simp only [go_sem, ↓reduceIte, reduceCtorEq, Nat.reduceAdd, Nat.reduceMul, Nat.reduceEqDiff, Nat.reduceSub, Nat.reduceLT, Nat.reduceLeDiff, Nat.reduceAnd, Nat.reduceShiftRight, Nat.reduceBEq, Nat.reduceBNe, Nat.reduceBneDiff, Nat.reduceBeqDiff, Int.reduceToNat, Int.reduceLE, Int.reduceLT, Int.reduceEq, e1, e2, hn, hb', hq', hx1, hx2, t1, t2, t3, w0, w1, w2, w3, w4, w5, w6, w7, w8, w9, w10, w11]
    have x0 : (0 : Int) ≤ (y1'.toNat : Int) * 131 + (y2'.toNat : Int) * 1117 + (q : Int) * 29 + (d : Int) * 53 := by omega
    have x1 : (y1'.toNat : Int) * 131 + (y2'.toNat : Int) * 1117 + (q : Int) * 29 + (d : Int) * 53 < 9223372036854775808 := by omega
    generalize (y1'.toNat : Int) * 131 + (y2'.toNat : Int) * 1117 + (q : Int) * 29 + (d : Int) * 53 = x at x0 x1
    have x2 : 0 ≤ x.tdiv 64 := Int.tdiv_nonneg x0 (by omega)
    have x3 : x.tdiv 64 ≤ x := by rw [Int.tdiv_eq_ediv_of_nonneg x0]; omega
    have x4 : IntKind.i64.wrap (x.tdiv 64) = x.tdiv 64 := by rw [wrap64] <;> omega
    rw [x4]
    have key : ∀ z : Int, 0 ≤ z.tmod n ∧ z.tmod n < n → ∃ t : Int × Int, ((q : Int) ≤ t.2 ∧ t.2 ≤ q + 1 ∧ 0 ≤ t.1 ∧ (1 ≤ n → t.1 < n)) ∧ some (z.tmod n) = some t.1 ∧
        [some (Root.bx [[D.c (C.s (b.map cU8.enc)), D.c (C.v (.int .i64 ((q : Int) + 1)))]])] = [some (Root.bx [[D.c (C.s (b.map cU8.enc)), D.c (C.v (.int .i64 t.2))]])] :=
      fun z hz => ⟨(z.tmod n, (q : Int) + 1), ⟨by omega, by omega, hz.1, fun _ => hz.2⟩, rfl, rfl⟩
    exact ⟨by omega, key _ (dv _ (xor_nn x0 x1 x2 (by omega)))⟩

abbrev RPick : FR := .rd1 (eInt .i64) (eInt .i64).enc (fun _ => 1) (fun _ => True) (fun n t => 0 ≤ t ∧ (1 ≤ n → t < n) ∧ (n < 1 → t = 0))
attribute [go_sem] RPick
theorem ok_spec_l1Rd_pick : RPick.ok Tryz.prog 16 := FR.rd1_ok fun b p n h0 h1 _ => f_pick b p n h0 h1

/-- The same with its answers one by one, where they are three or four: for those who look up what stands at that place of a list. -/
abbrev RPickL : FR where
  md := []
  m args rin := match args, rin with
    | [.x (.o (.p (0, 0) 0 0 1)), e2], [.bx [[.c (.s rows), .c (.v (.int .i64 p))]]] => match mapO cU8.dec rows, (eInt .i64).dec e2 with
      | some b, some n => some (rows = b.map cU8.enc ∧ 0 ≤ p ∧ p + 1 ≤ rdM, fun k => (n = 3 → (∀ q, p ≤ q ∧ q ≤ p + 1 → k ((eInt .i64).enc 0) [some (rdR b q)]) ∧ (∀ q, p ≤ q ∧ q ≤ p + 1 → k ((eInt .i64).enc 1) [some (rdR b q)]) ∧ ∀ q, p ≤ q ∧ q ≤ p + 1 → k ((eInt .i64).enc 2) [some (rdR b q)]) ∧
          (n = 4 → (∀ q, p ≤ q ∧ q ≤ p + 1 → k ((eInt .i64).enc 0) [some (rdR b q)]) ∧ (∀ q, p ≤ q ∧ q ≤ p + 1 → k ((eInt .i64).enc 1) [some (rdR b q)]) ∧ (∀ q, p ≤ q ∧ q ≤ p + 1 → k ((eInt .i64).enc 2) [some (rdR b q)]) ∧ ∀ q, p ≤ q ∧ q ≤ p + 1 → k ((eInt .i64).enc 3) [some (rdR b q)]) ∧
          (¬ n = 3 → ¬ n = 4 → ∀ v q, p ≤ q ∧ q ≤ p + 1 ∧ 0 ≤ v ∧ (1 ≤ n → v < n) ∧ (n < 1 → v = 0) → k ((eInt .i64).enc v) [some (rdR b q)]))
      | _, _ => none
    | _, _ => none
attribute [go_sem] RPickL
theorem okR_pickL : RPickL.ok Tryz.prog 16 := by
  intro args rin pr W hm hp k hk
  simp only [RPickL] at hm
  split at hm
  · split at hm
    · rename_i e2 rows p _ _ b n h1 h2
      cases hm
      obtain ⟨e, h3, h4⟩ := hp
      subst e
      obtain ⟨⟨v, q⟩, h6, h7⟩ := f_pick b p n h3 h4
      dsimp only at h6 h7
      refine ⟨_, _, h7.weaken (.cons (fun _ _ _ _ _ h => h) (.cons (CE.ok _ _ _ h2) .nil)), ?_⟩
      obtain ⟨k3, k4, kk⟩ := hk
      by_cases g3 : n = 3
      · obtain ⟨c0, c1, c2⟩ := k3 g3
        obtain rfl | rfl | rfl : v = 0 ∨ v = 1 ∨ v = 2 := by omega
        · exact c0 q ⟨h6.1, h6.2.1⟩
        · exact c1 q ⟨h6.1, h6.2.1⟩
        · exact c2 q ⟨h6.1, h6.2.1⟩
      by_cases g4 : n = 4
      · obtain ⟨c0, c1, c2, c3⟩ := k4 g4
        obtain rfl | rfl | rfl | rfl : v = 0 ∨ v = 1 ∨ v = 2 ∨ v = 3 := by omega
        · exact c0 q ⟨h6.1, h6.2.1⟩
        · exact c1 q ⟨h6.1, h6.2.1⟩
        · exact c2 q ⟨h6.1, h6.2.1⟩
        · exact c3 q ⟨h6.1, h6.2.1⟩
      exact kk g3 g4 v q h6
    · cases hm
  · cases hm

def H_spec_l1Open : Hint := { fs := [], kp := [(0, [0]), (1, [0]), (2, [0]), (3, [0])], an := [] }
attribute [go_sem] H_spec_l1Open
theorem ok_H_spec_l1Open : H_spec_l1Open.ok Tryz.prog := AllOk.okR .nil .nil mix
theorem f_open (b : List UInt8) (h : b.length ≤ 1048576) : VFun Tryz.prog 103 [(eList cU8).enc b] [] rdP [some (rdR (b.take 2000) 0)] := by
  refine VFun_own (rin := []) (n := 11) (rs := [.tmp 2]) Tryz.func103 rfl rfl rfl rfl H_spec_l1Open ok_H_spec_l1Open (Nat.le_of_ble_eq_true rfl) (by kernel_rfl) ?_
  simp only [go_sem, ↓reduceIte, reduceCtorEq, Nat.reduceAdd, Nat.reduceMul, Nat.reduceEqDiff, Nat.reduceSub, Nat.reduceLT, Nat.reduceLeDiff, Nat.reduceAnd, Nat.reduceShiftRight, Nat.reduceBEq, Nat.reduceBNe, Nat.reduceBneDiff, Nat.reduceBeqDiff, Int.reduceToNat, Int.reduceLE, Int.reduceLT, Int.reduceEq]
  refine ite_intro (fun h1 => ?_) fun h1 => ?_
  · omega
  · rw [List.take_of_length_le (by omega)]
abbrev MOpen : FM := .g1 (eList cU8) (fun b => (rdP, [some (rdR (b.take 2000) 0)])) (fun b => b.length ≤ 1048576)
attribute [go_sem] MOpen
theorem ok_spec_l1Open : MOpen.ok Tryz.prog 103 := FM.g1_ok fun b h => f_open b h

theorem wrapU8 (y : UInt8) : IntKind.u8.wrap (y.toNat : Int) = (y.toNat : Int) := by
  have := y.toNat_lt
  simp [IntKind.wrap, IntKind.bits, IntKind.signed]; omega
theorem wrapU8_of {t : Int} (h0 : 0 ≤ t) (h1 : t < 256) : ∃ y : UInt8, IntKind.u8.wrap t = (y.toNat : Int) := by
  refine ⟨UInt8.ofNat t.toNat, ?_⟩
  simp [IntKind.wrap, IntKind.bits, IntKind.signed]; omega

def H_spec_l1Rd_text : Hint := { fs := [], kp := [(0, [0, 1]), (1, [0, 1]), (2, [0, 1, 5]), (3, [0, 5, 6]), (5, [0, 5, 6]), (4, [0, 5, 6]), (6, [5])], an := [], rs := [(16, RPick)] }
attribute [go_sem] H_spec_l1Rd_text
theorem ok_H_spec_l1Rd_text : H_spec_l1Rd_text.ok Tryz.prog := AllOk.okR .nil (.cons ok_spec_l1Rd_pick .nil) mix
theorem f_text (b : List UInt8) (p n : Int) (h0 : 0 ≤ p) (hn : 0 ≤ n) (hm : n ≤ 1000000) (h1 : p + (n + 1) ≤ rdM) : ∃ t : ByteArray × Int, (p ≤ t.2 ∧ t.2 ≤ p + (n + 1) ∧ (t.1.size : Int) ≤ n) ∧ VFun Tryz.prog 44 [rdP, (eInt .i64).enc n] [some (rdR b p)] (eStr.enc t.1) [some (rdR b t.2)] := by
  unfold rdM at h1
  have e1 : IntKind.i64.wrap (n + 1) = n + 1 := wrap64 (by omega) (by omega)
  refine VFun_rel (n := 24) (rs := [.tmp 4]) Tryz.func44 rfl rfl rfl rfl H_spec_l1Rd_text ok_H_spec_l1Rd_text  (rin := [rdR b p]) (T := ByteArray × Int) eStr (fun t => t.1) (fun t => [some (rdR b t.2)]) (fun t => p ≤ t.2 ∧ t.2 ≤ p + (n + 1) ∧ (t.1.size : Int) ≤ n) (Nat.le_of_ble_eq_true rfl) (by kernel_rfl) ?_
  simp only [go_sem, ↓reduceIte, reduceCtorEq, Nat.reduceAdd, Nat.reduceMul, Nat.reduceEqDiff, Nat.reduceSub, Nat.reduceLT, Nat.reduceLeDiff, Nat.reduceAnd, Nat.reduceShiftRight, Nat.reduceBEq, Nat.reduceBNe, Nat.reduceBneDiff, Nat.reduceBeqDiff, Int.reduceToNat, Int.reduceLE, Int.reduceLT, Int.reduceEq, e1]
  refine ⟨⟨h0, by omega⟩, ?_⟩
  rintro k0 p0 ⟨g1, g2, g3, g4, -⟩
  refine LoopV.meas (H := H_spec_l1Rd_text) ok_H_spec_l1Rd_text (by kernel_rfl) (fun y : List UInt8 × Int × Int => ⟨[(0, rdP), (5, .x (.o (.h (1, 100) 0 y.1.length y.1.length))), (6, sc (.int .i64 y.2.1))], [((0, 0), rdR b y.2.2), ((1, 100), .row 1 (y.1.map cU8.enc))], 2⟩)
    (fun y => y.2.1.toNat) (fun y => 0 ≤ y.2.1 ∧ p ≤ y.2.2 ∧ y.2.2 + y.2.1 ≤ p + (n + 1) ∧ (y.1.length : Int) + y.2.1 ≤ n) ?_ ([], k0, p0) (by dsimp only [List.length_nil]; omega)
  rintro ⟨xs, k, q⟩ ⟨j1, j2, j3, j4⟩
  dsimp only at j1 j2 j3 j4 ⊢
  have e2 : IntKind.i64.wrap (k - 1) = k - 1 := wrap64 (by omega) (by omega)
  by_cases hk : 0 < k
  · have hk' : (0 < k) = True := eq_true hk
    simp only [go_sem, ↓reduceIte, reduceCtorEq, Nat.reduceAdd, Nat.reduceMul, Nat.reduceEqDiff, Nat.reduceSub, Nat.reduceLT, Nat.reduceLeDiff, Nat.reduceAnd, Nat.reduceShiftRight, Nat.reduceBEq, Nat.reduceBNe, Nat.reduceBneDiff, Nat.reduceBeqDiff, Int.reduceToNat, Int.reduceLE, Int.reduceLT, Int.reduceEq, hk', e2]
    refine ⟨⟨by omega, by omega⟩, ?_⟩
    rintro v q' ⟨c1, c2, c3, c4⟩
    obtain ⟨y, hy⟩ := wrapU8_of c3 c4
    rw [hy]
    exact ⟨⟨by omega, by omega⟩, (xs ++ [y], k - 1, q'), ⟨by dsimp only; omega, by dsimp only; omega, by dsimp only; omega, by simp; omega⟩, by dsimp only; omega, by simp [rdR, cU8_enc]⟩
  · have hk' : (0 < k) = False := eq_false hk
    simp only [go_sem, ↓reduceIte, reduceCtorEq, Nat.reduceAdd, Nat.reduceMul, Nat.reduceEqDiff, Nat.reduceSub, Nat.reduceLT, Nat.reduceLeDiff, Nat.reduceAnd, Nat.reduceShiftRight, Nat.reduceBEq, Nat.reduceBNe, Nat.reduceBneDiff, Nat.reduceBeqDiff, Int.reduceToNat, Int.reduceLE, Int.reduceLT, Int.reduceEq, hk']
    exact ⟨(⟨xs.toArray⟩, q), ⟨j2, by dsimp only; omega, by simp [ByteArray.size]; omega⟩, rfl, rfl⟩
abbrev RText : FR := .rd1 (eInt .i64) eStr.enc (fun n => n + 1) (fun n => 0 ≤ n ∧ n ≤ 1000000) (fun n t => (t.size : Int) ≤ n)
attribute [go_sem] RText
theorem ok_spec_l1Rd_text : RText.ok Tryz.prog 44 := FR.rd1_ok fun b p n h0 h1 h2 => f_text b p n h0 h2.1 h2.2 h1

def H_spec_l1Many : Hint := { fs := [], kp := [(0, [0, 1]), (1, [0, 1]), (2, [0, 1, 5]), (3, [0, 1, 5]), (4, [0, 1, 5]), (5, [0, 1, 5]), (6, [0, 1, 5]), (7, [5])], an := [] }
attribute [go_sem] H_spec_l1Many
theorem ok_H_spec_l1Many : H_spec_l1Many.ok Tryz.prog := AllOk.okR .nil .nil mix
theorem f_many (s : ByteArray) (n : Int) (h0 : 0 ≤ n) (h1 : n ≤ 1000000) (h2 : s.size ≤ 1000) : ∃ t : ByteArray, (t.size : Int) = s.size * n ∧ VFun Tryz.prog 43 [eStr.enc s, (eInt .i64).enc n] [] (eStr.enc t) [] := by
  refine VFun_rel (n := 20) (rs := [.tmp 4]) Tryz.func43 rfl rfl rfl rfl H_spec_l1Many ok_H_spec_l1Many  (rin := []) (T := ByteArray) eStr (fun t => t) (fun t => []) (fun t => (t.size : Int) = s.size * n) (Nat.le_of_ble_eq_true rfl) (by kernel_rfl) ?_
  simp only [go_sem, ↓reduceIte, reduceCtorEq, Nat.reduceAdd, Nat.reduceMul, Nat.reduceEqDiff, Nat.reduceSub, Nat.reduceLT, Nat.reduceLeDiff, Nat.reduceAnd, Nat.reduceShiftRight, Nat.reduceBEq, Nat.reduceBNe, Nat.reduceBneDiff, Nat.reduceBeqDiff, Int.reduceToNat, Int.reduceLE, Int.reduceLT, Int.reduceEq]
  obtain ⟨n, rfl⟩ := Int.eq_ofNat_of_zero_le h0
  have hS : s.size * n ≤ 1000000000 := Nat.le_trans (Nat.mul_le_mul h2 (by omega : n ≤ 1000000)) (by omega)
  refine LoopV.meas (H := H_spec_l1Many) ok_H_spec_l1Many (by kernel_rfl) (fun y : ByteArray × Nat × ByteArray => ⟨[(0, sc (.string y.1)), (1, sc (.int .i64 y.2.1)), (5, sc (.string y.2.2))], [], 2⟩)
    (fun y => y.2.1) (fun y => y.2.1 ≤ n ∧ y.2.2.size + y.1.size * y.2.1 = s.size * n) ?_ (s, n, ⟨#[]⟩) ⟨Nat.le_refl _, Nat.zero_add _⟩
  rintro ⟨z, k, o⟩ ⟨j1, j2⟩
  dsimp only at j1 j2 ⊢
  by_cases hk : 0 < k
  · have hk' : (0 < (k : Int)) = True := eq_true (by omega)
    have t1 : (k : Int).tmod 2 = ((k % 2 : Nat) : Int) := by rw [Int.tmod_eq_emod_of_nonneg (by omega)]; simp
    have t2 : (k : Int).tdiv 2 = ((k / 2 : Nat) : Int) := by rw [Int.tdiv_eq_ediv_of_nonneg (by omega)]; simp
    have t3 : IntKind.i64.wrap ((k / 2 : Nat) : Int) = ((k / 2 : Nat) : Int) := by rw [wrap64] <;> omega
    have hz : z.size ≤ s.size * n := by have := Nat.le_mul_of_pos_right z.size hk; omega
    have hk2 : z.size * k = z.size * (k / 2) + z.size * (k / 2) + z.size * (k % 2) := by
      rw [← Nat.mul_add, ← Nat.mul_add]; congr 1; omega
    have hs2 : (z ++ z).size = z.size + z.size := by simp
    have hso : (o ++ z).size = o.size + z.size := by simp
    simp only [go_sem, ↓reduceIte, reduceCtorEq, Nat.reduceAdd, Nat.reduceMul, Nat.reduceEqDiff, Nat.reduceSub, Nat.reduceLT, Nat.reduceLeDiff, Nat.reduceAnd, Nat.reduceShiftRight, Nat.reduceBEq, Nat.reduceBNe, Nat.reduceBneDiff, Nat.reduceBeqDiff, Int.reduceToNat, Int.reduceLE, Int.reduceLT, Int.reduceEq, hk', t1, t2, t3]
    refine ite_intro (fun h3 => ?_) fun h3 => ?_
    · have h4 : k % 2 = 1 := by omega
      rw [h4] at hk2
      exact ⟨by omega, by omega, (z ++ z, k / 2, o ++ z), ⟨by dsimp only; omega, by dsimp only; rw [hs2, hso, Nat.add_mul]; omega⟩, by dsimp only; omega, rfl⟩
    · have h4 : k % 2 = 0 := by
        have : ¬ k % 2 = 1 := fun e => h3 (by omega)
        omega
      rw [h4] at hk2
      exact ⟨by omega, (z ++ z, k / 2, o), ⟨by dsimp only; omega, by dsimp only; rw [hs2, Nat.add_mul]; omega⟩, by dsimp only; omega, rfl⟩
  · have hk' : (0 < (k : Int)) = False := eq_false (by omega)
    simp only [go_sem, ↓reduceIte, reduceCtorEq, Nat.reduceAdd, Nat.reduceMul, Nat.reduceEqDiff, Nat.reduceSub, Nat.reduceLT, Nat.reduceLeDiff, Nat.reduceAnd, Nat.reduceShiftRight, Nat.reduceBEq, Nat.reduceBNe, Nat.reduceBneDiff, Nat.reduceBeqDiff, Int.reduceToNat, Int.reduceLE, Int.reduceLT, Int.reduceEq, hk']
    have : k = 0 := by omega
    subst this
    exact ⟨o, by omega, rfl⟩
abbrev RMany : FR where
  md := []
  m args rin := match args, rin with
    | [e1, e2], [] => match eStr.dec e1, (eInt .i64).dec e2 with
      | some s, some n => some (0 ≤ n ∧ n ≤ 1000000 ∧ s.size ≤ 1000, fun k => ∀ t : ByteArray, (t.size : Int) = s.size * n → k (eStr.enc t) [])
      | _, _ => none
    | _, _ => none
attribute [go_sem] RMany
theorem okR_many {P : Program} {g : FuncId} (h : ∀ s n, 0 ≤ n → n ≤ 1000000 → s.size ≤ 1000 → ∃ t : ByteArray, (t.size : Int) = s.size * n ∧ VFun P g [eStr.enc s, (eInt .i64).enc n] [] (eStr.enc t) []) : RMany.ok P g := by
  intro args rin pr W hm hp k hk
  simp only [RMany] at hm
  split at hm
  · split at hm
    · rename_i e1 e2 _ _ s n h1 h2
      cases hm
      obtain ⟨t, h6, h7⟩ := h s n hp.1 hp.2.1 hp.2.2
      exact ⟨_, _, h7.weaken (.cons (CE.ok _ _ _ h1) (.cons (CE.ok _ _ _ h2) .nil)), hk t h6⟩
    · cases hm
  · cases hm
theorem ok_spec_l1Many : RMany.ok Tryz.prog 43 := okR_many fun s n h0 h1 h2 => f_many s n h0 h1 h2

/-- What is drawn by a code: of which only something is said. -/
abbrev FR.dr {R : Type} (r : CE R) (post : R → Prop) : FR where
  md := []
  m args rin := match args, rin with
    | [e1], [] => match (eList cU8).dec e1 with
      | some b => some (b.length ≤ 1048576, fun k => ∀ v, post v → k (r.enc v) [])
      | none => none
    | _, _ => none
theorem FR.dr_ok {P : Program} {g : FuncId} {R : Type} {r : CE R} {post : R → Prop} (h : ∀ (b : List UInt8), b.length ≤ 1048576 → ∃ v : R, post v ∧ VFun P g [(eList cU8).enc b] [] (r.enc v) []) : (FR.dr r post).ok P g := by
  intro args rin pre W hm hp k hk
  simp only [FR.dr] at hm
  split at hm
  · split at hm
    · rename_i h1
      cases hm
      obtain ⟨v, h3, h4⟩ := h _ hp
      exact ⟨_, _, h4.weaken (.cons (CE.ok _ _ _ h1) .nil), hk _ h3⟩
    · cases hm
  · cases hm

end Go.Proofs.YtcgkhljolflenaaGreatW.V

