/- The law FnSlotSums of the given program returns true at every input that reads as data of its parameters' types, and leaves its arguments as they were. No condition besides. -/
import Derived.Test.YtcgfgodpiobcfaaVD
import Derived.Test.YtcgfgodpiobcfaaWOpen
import Derived.KernelRfl
import Derived.Test.YtcgfgodpiobcfaaVRec
import Derived.Test.YtcgfgodpiobcfaaRows
import Derived.Test.YtcgfgodpiobcfaaVx25
import Derived.WalkKit
import Derived.ProofKit
import Derived.OpenShut
import Derived.ShutString
import Derived.ChangeOld
import Derived.Below
import Derived.SizedLaws
import Derived.Carry
namespace Go.Proofs.Ytcgfgodpiobcfaa.V
open Go.RowKit Go.Proofs.YtcgfgodpiobcfaaW.PrintWords Go.Proofs.YtcgfgodpiobcfaaW.PrintLast
set_option linter.unusedVariables false
/-- The one plain statement of this law. -/
def laws_FnSlotSums.Plain : Prop := ∀ (l0 : List Int), (l0.length ≤ maxLen ∧ ∀ y ∈ l0, (Lit.int .u8 y).wf = true) → ∃ k, laws_FnSlotSums.f k l0 = some true
end Go.Proofs.Ytcgfgodpiobcfaa.V

namespace Go.Proofs.Ytcgfgodpiobcfaa.Pure
open Go Go.RowKit Go.Proofs.Ytcgfgodpiobcfaa.V Go.Proofs.Ytcgfgodpiobcfaa.Hash Go.Proofs.YtcgfgodpiobcfaaW.PrintWords Go.Proofs.YtcgfgodpiobcfaaW.PrintLast Go.Proofs.YtcgfgodpiobcfaaW.PrintMore
set_option linter.unusedSimpArgs false
set_option linter.unusedVariables false
theorem pick_ev (b : List Int) (hb : b.length ≤ 2000) (p : Nat) (hp : p ≤ 100000) (n : Int) (hn : 1 ≤ n) : ∃ v, Ev (fun k => spec_l1Rd_pick.f k b (p : Int) n) (v, ((p + 1 : Nat) : Int)) := by
  have hw : wrap64 ((p : Int) + 1) = ((p + 1 : Nat) : Int) := wrap_succ p (by omega)
  have hw2 : wrap64 (((p + 1 : Nat) : Int) - 1) = (p : Int) := by rw [wrap_of (by omega) (by omega)]; omega
  have hn0 : ¬ n < 1 := by omega
  have hn1 : ¬ n = 0 := by omega
  by_cases h0 : b.length = 0
  · refine ⟨0, Ev.mk' 1 fun k hk => ?_⟩
    obtain ⟨m, rfl⟩ : ∃ m, k = m + 1 := ⟨k - 1, by omega⟩
    unfold spec_l1Rd_pick.f
    rw [if_neg hn0, hw, h0]
    rfl
  · have e : ((b.length : Int) == 0) = false := by rw [beq_eq_false_iff_ne]; omega
    by_cases h1 : (p : Int) < (b.length : Int)
    · refine ⟨?_, Ev.mk' 1 fun k hk => ?_⟩
      rotate_left
      · obtain ⟨m, rfl⟩ : ∃ m, k = m + 1 := ⟨k - 1, by omega⟩
        unfold spec_l1Rd_pick.f
        rw [if_neg hn0, hw, e]
        simp only [spec_l1Rd_pick.j0, hw2]
        rw [if_neg (by simp), if_pos h1, if_pos (by omega), if_neg hn1]
    · have hl : (0 : Int) < (b.length : Int) := by omega
      have hq : wrap64 ((wrap64 ((p : Int) * 7)) + 3) = (p : Int) * 7 + 3 := by
        rw [wrap_of (x := (p : Int) * 7) (by omega) (by omega), wrap_of (by omega) (by omega)]
      have t1 : (0 : Int) ≤ Int.tmod (p : Int) (b.length : Int) := Int.tmod_nonneg _ (by omega)
      have t2 : Int.tmod (p : Int) (b.length : Int) < (b.length : Int) := Int.tmod_lt_of_pos _ hl
      have t3 : (0 : Int) ≤ Int.tmod ((p : Int) * 7 + 3) (b.length : Int) := Int.tmod_nonneg _ (by omega)
      have t4 : Int.tmod ((p : Int) * 7 + 3) (b.length : Int) < (b.length : Int) := Int.tmod_lt_of_pos _ hl
      refine ⟨?_, Ev.mk' 1 fun k hk => ?_⟩
      rotate_left
      · obtain ⟨m, rfl⟩ : ∃ m, k = m + 1 := ⟨k - 1, by omega⟩
        unfold spec_l1Rd_pick.f
        rw [if_neg hn0, hw, e]
        simp only [spec_l1Rd_pick.j0, hw2, hq]
        rw [if_neg (by simp), if_neg h1, if_neg (by omega), if_pos t1, if_pos t2, if_pos t3, if_pos t4, if_neg hn1]
theorem word8 (b : List Int) (hb : b.length ≤ 2000) (d : Nat) : ∀ (i p : Nat) (x : Int), i + d = 8 → p + d ≤ 100000 → ∃ v, Ev (fun k => spec_l1Rd_word.l0 k x (i : Int) b (p : Int)) (v, ((p + d : Nat) : Int)) := by
  induction d with
  | zero =>
    intro i p x hi hp
    refine ⟨x, Ev.mk' 1 fun k hk => ?_⟩
    obtain ⟨m, rfl⟩ : ∃ m, k = m + 1 := ⟨k - 1, by omega⟩
    simp only [spec_l1Rd_word.l0]
    rw [if_neg (by omega)]; rfl
  | succ d ih =>
    intro i p x hi hp
    obtain ⟨v0, h0⟩ := pick_ev b hb p (by omega) 256 (by omega)
    obtain ⟨K0, h0⟩ := Ev.get h0
    obtain ⟨v1, h1⟩ := ih (i + 1) (p + 1) (Go.bits .or .u64 (IntKind.u64.wrap (x * 256)) (IntKind.u64.wrap v0)) (by omega) (by omega)
    obtain ⟨K1, h1⟩ := Ev.get h1
    refine ⟨v1, Ev.mk' (K0 + K1 + 1) fun k hk => ?_⟩
    obtain ⟨m, rfl⟩ : ∃ m, k = m + 1 := ⟨k - 1, by omega⟩
    simp only [spec_l1Rd_word.l0]
    rw [if_pos (by omega), h0 m (by omega), Option.bind_some, wrap_succ i (by omega)]
    rw [show p + (d + 1) = p + 1 + d by omega]
    exact h1 m (by omega)
theorem word_ev (b : List Int) (hb : b.length ≤ 2000) (p : Nat) (hp : p ≤ 90000) : ∃ (v : Int) (q : Nat), q ≤ p + 9 ∧ Ev (fun k => spec_l1Rd_word.f k b (p : Int)) (v, (q : Int)) := by
  obtain ⟨v0, h0⟩ := pick_ev b hb p (by omega) 6 (by omega)
  obtain ⟨K0, h0⟩ := Ev.get h0
  obtain ⟨v1, h1⟩ := pick_ev b hb (p + 1) (by omega) 3 (by omega)
  obtain ⟨K1, h1⟩ := Ev.get h1
  by_cases c0 : v0 = 0
  · refine ⟨?_, p + 2, by omega, Ev.mk' (K0 + K1) fun k hk => ?_⟩
    rotate_left
    · unfold spec_l1Rd_word.f
      rw [h0 k (by omega), Option.bind_some, if_pos c0, h1 k (by omega), Option.bind_some]
  · by_cases c1 : v0 = 1
    · refine ⟨?_, p + 2, by omega, Ev.mk' (K0 + K1) fun k hk => ?_⟩
      rotate_left
      · unfold spec_l1Rd_word.f
        rw [h0 k (by omega), Option.bind_some, if_neg c0, if_pos c1, h1 k (by omega), Option.bind_some]
    · obtain ⟨v2, h2⟩ := word8 b hb 8 0 (p + 1) 0 (by omega) (by omega)
      obtain ⟨K2, h2⟩ := Ev.get h2
      refine ⟨v2, p + 1 + 8, by omega, Ev.mk' (K0 + K2) fun k hk => ?_⟩
      unfold spec_l1Rd_word.f
      rw [h0 k (by omega), Option.bind_some, if_neg c0, if_neg c1]
      exact h2 k (by omega)
theorem digest_ev (b : List Int) (hb : b.length ≤ 2000) (p : Nat) (hp : p ≤ 80000) : ∃ (v0 v1 v2 v3 : Int) (q : Nat), q ≤ p + 36 ∧ Ev (fun k => spec_l1Rd_digest.f k b (p : Int)) (v0, v1, v2, v3, (q : Int)) := by
  obtain ⟨v0, q0, l0, h0⟩ := word_ev b hb p (by omega)
  obtain ⟨K0, h0⟩ := Ev.get h0
  obtain ⟨v1, q1, l1, h1⟩ := word_ev b hb q0 (by omega)
  obtain ⟨K1, h1⟩ := Ev.get h1
  obtain ⟨v2, q2, l2, h2⟩ := word_ev b hb q1 (by omega)
  obtain ⟨K2, h2⟩ := Ev.get h2
  obtain ⟨v3, q3, l3, h3⟩ := word_ev b hb q2 (by omega)
  obtain ⟨K3, h3⟩ := Ev.get h3
  refine ⟨v0, v1, v2, v3, q3, by omega, Ev.mk' (K0 + K1 + K2 + K3) fun k hk => ?_⟩
  unfold spec_l1Rd_digest.f
  rw [h0 k (by omega), Option.bind_some, h1 k (by omega), Option.bind_some, h2 k (by omega), Option.bind_some, h3 k (by omega), Option.bind_some]
theorem j5_ev (b : List Int) (x : Int) (p : Int) (s0 s1 s2 s3 s4 s5 s6 : Int) : ∃ r, Ev (fun k => spec_l7Slot.j5 k x b p s0 s1 s2 s3 s4 s5 s6) r := by
  by_cases h2 : x = 2
  · by_cases h3 : x = 3
    · omega
    · refine ⟨?_, Ev.mk' 1 fun k hk => ?_⟩
      rotate_left
      · obtain ⟨m, rfl⟩ : ∃ m, k = m + 1 := ⟨k - 1, by omega⟩
        simp only [spec_l7Slot.j5]
        rw [if_pos h2, if_neg h3]
  · by_cases h3 : x = 3
    · refine ⟨?_, Ev.mk' 1 fun k hk => ?_⟩
      rotate_left
      · obtain ⟨m, rfl⟩ : ∃ m, k = m + 1 := ⟨k - 1, by omega⟩
        simp only [spec_l7Slot.j5]
        rw [if_neg h2, if_pos h3]
    · refine ⟨?_, Ev.mk' 1 fun k hk => ?_⟩
      rotate_left
      · obtain ⟨m, rfl⟩ : ∃ m, k = m + 1 := ⟨k - 1, by omega⟩
        simp only [spec_l7Slot.j5]
        rw [if_neg h2, if_neg h3]
theorem j4_ev (b : List Int) (hb : b.length ≤ 2000) (x : Int) (p : Nat) (hp : p ≤ 70000) (s0 s1 s2 s3 s4 s5 s6 : Int) : ∃ r, Ev (fun k => spec_l7Slot.j4 k x b (p : Int) s0 s1 s2 s3 s4 s5 s6) r := by
  obtain ⟨v, q, _, h⟩ := word_ev b hb p (by omega)
  obtain ⟨K, h⟩ := Ev.get h
  by_cases c : x = 1
  · obtain ⟨r, h1⟩ := j5_ev b x (q : Int) v s1 s2 s3 s4 s5 s6
    obtain ⟨K1, h1⟩ := Ev.get h1
    refine ⟨r, Ev.mk' (K + K1 + 1) fun k hk => ?_⟩
    obtain ⟨m, rfl⟩ : ∃ m, k = m + 1 := ⟨k - 1, by omega⟩
    simp only [spec_l7Slot.j4]
    rw [if_pos c, h m (by omega), Option.bind_some]
    exact h1 m (by omega)
  · obtain ⟨r, h1⟩ := j5_ev b x (p : Int) s0 s1 s2 s3 s4 s5 s6
    obtain ⟨K1, h1⟩ := Ev.get h1
    refine ⟨r, Ev.mk' (K1 + 1) fun k hk => ?_⟩
    obtain ⟨m, rfl⟩ : ∃ m, k = m + 1 := ⟨k - 1, by omega⟩
    simp only [spec_l7Slot.j4]
    rw [if_neg c]
    exact h1 m (by omega)
theorem j3_ev (b : List Int) (hb : b.length ≤ 2000) (p : Nat) (hp : p ≤ 60000) (s0 s1 s2 s3 s4 s5 s6 : Int) : ∃ r, Ev (fun k => spec_l7Slot.j3 k b (p : Int) s0 s1 s2 s3 s4 s5 s6) r := by
  obtain ⟨K, h⟩ := Ev.get (spec_slotSum s0 s1 s2 s3 s4 s5 s6)
  obtain ⟨v, h0⟩ := pick_ev b hb p (by omega) 10 (by omega)
  obtain ⟨K0, h0⟩ := Ev.get h0
  by_cases c : v = 0
  · obtain ⟨r, h1⟩ := j4_ev b hb v (p + 1) (by omega) 0 s1 s2 s3 s4 s5 s6
    obtain ⟨K1, h1⟩ := Ev.get h1
    refine ⟨r, Ev.mk' (K + K0 + K1 + 1) fun k hk => ?_⟩
    obtain ⟨m, rfl⟩ : ∃ m, k = m + 1 := ⟨k - 1, by omega⟩
    simp only [spec_l7Slot.j3]
    rw [h m (by omega), Option.bind_some, h0 m (by omega), Option.bind_some, if_pos c]
    exact h1 m (by omega)
  · obtain ⟨r, h1⟩ := j4_ev b hb v (p + 1) (by omega) (slotSum s1 s2 s3 s4 s5 s6) s1 s2 s3 s4 s5 s6
    obtain ⟨K1, h1⟩ := Ev.get h1
    refine ⟨r, Ev.mk' (K + K0 + K1 + 1) fun k hk => ?_⟩
    obtain ⟨m, rfl⟩ : ∃ m, k = m + 1 := ⟨k - 1, by omega⟩
    simp only [spec_l7Slot.j3]
    rw [h m (by omega), Option.bind_some, h0 m (by omega), Option.bind_some, if_neg c]
    exact h1 m (by omega)
theorem j2_ev (b : List Int) (hb : b.length ≤ 2000) (x : Int) (p : Nat) (hp : p ≤ 50000) (s0 s1 s2 s3 s4 s5 s6 : Int) : ∃ r, Ev (fun k => spec_l7Slot.j2 k x b (p : Int) s0 s1 s2 s3 s4 s5 s6) r := by
  obtain ⟨v, q, _, h⟩ := word_ev b hb p (by omega)
  obtain ⟨K, h⟩ := Ev.get h
  by_cases c : x = 3
  · obtain ⟨r, h1⟩ := j3_ev b hb q (by omega) s0 s1 v s3 s4 s5 s6
    obtain ⟨K1, h1⟩ := Ev.get h1
    refine ⟨r, Ev.mk' (K + K1 + 1) fun k hk => ?_⟩
    obtain ⟨m, rfl⟩ : ∃ m, k = m + 1 := ⟨k - 1, by omega⟩
    simp only [spec_l7Slot.j2]
    rw [if_pos c, h m (by omega), Option.bind_some]
    exact h1 m (by omega)
  · obtain ⟨r, h1⟩ := j3_ev b hb p (by omega) s0 s1 s2 s3 s4 s5 s6
    obtain ⟨K1, h1⟩ := Ev.get h1
    refine ⟨r, Ev.mk' (K1 + 1) fun k hk => ?_⟩
    obtain ⟨m, rfl⟩ : ∃ m, k = m + 1 := ⟨k - 1, by omega⟩
    simp only [spec_l7Slot.j2]
    rw [if_neg c]
    exact h1 m (by omega)
theorem j1_ev (b : List Int) (hb : b.length ≤ 2000) (x : Int) (p : Nat) (hp : p ≤ 40000) (s0 s1 s2 s3 s4 s5 s6 : Int) : ∃ r, Ev (fun k => spec_l7Slot.j1 k x b (p : Int) s0 s1 s2 s3 s4 s5 s6) r := by
  obtain ⟨v, q, _, h⟩ := word_ev b hb p (by omega)
  obtain ⟨K, h⟩ := Ev.get h
  by_cases c : x = 2
  · obtain ⟨r, h1⟩ := j2_ev b hb x q (by omega) s0 v s2 s3 s4 s5 s6
    obtain ⟨K1, h1⟩ := Ev.get h1
    refine ⟨r, Ev.mk' (K + K1 + 1) fun k hk => ?_⟩
    obtain ⟨m, rfl⟩ : ∃ m, k = m + 1 := ⟨k - 1, by omega⟩
    simp only [spec_l7Slot.j1]
    rw [if_pos c, h m (by omega), Option.bind_some]
    exact h1 m (by omega)
  · obtain ⟨r, h1⟩ := j2_ev b hb x p (by omega) s0 s1 s2 s3 s4 s5 s6
    obtain ⟨K1, h1⟩ := Ev.get h1
    refine ⟨r, Ev.mk' (K1 + 1) fun k hk => ?_⟩
    obtain ⟨m, rfl⟩ : ∃ m, k = m + 1 := ⟨k - 1, by omega⟩
    simp only [spec_l7Slot.j1]
    rw [if_neg c]
    exact h1 m (by omega)
theorem j0_ev (b : List Int) (hb : b.length ≤ 2000) (x : Int) (p : Nat) (hp : p ≤ 30000) (s0 s1 s2 s3 s4 s5 s6 : Int) : ∃ r, Ev (fun k => spec_l7Slot.j0 k x b (p : Int) s0 s1 s2 s3 s4 s5 s6) r := by
  obtain ⟨v, h⟩ := pick_ev b hb p (by omega) 3 (by omega)
  obtain ⟨K, h⟩ := Ev.get h
  by_cases c : x = 1
  · obtain ⟨r, h1⟩ := j1_ev b hb x (p + 1) (by omega) s0 s1 (IntKind.u64.wrap (wrap64 (255 + v))) s3 s4 s5 s6
    obtain ⟨K1, h1⟩ := Ev.get h1
    refine ⟨r, Ev.mk' (K + K1 + 1) fun k hk => ?_⟩
    obtain ⟨m, rfl⟩ : ∃ m, k = m + 1 := ⟨k - 1, by omega⟩
    simp only [spec_l7Slot.j0]
    rw [if_pos c, h m (by omega), Option.bind_some]
    exact h1 m (by omega)
  · obtain ⟨r, h1⟩ := j1_ev b hb x p (by omega) s0 s1 s2 s3 s4 s5 s6
    obtain ⟨K1, h1⟩ := Ev.get h1
    refine ⟨r, Ev.mk' (K1 + 1) fun k hk => ?_⟩
    obtain ⟨m, rfl⟩ : ∃ m, k = m + 1 := ⟨k - 1, by omega⟩
    simp only [spec_l7Slot.j0]
    rw [if_neg c]
    exact h1 m (by omega)
theorem l7Slot_ev (b : List Int) (hb : b.length ≤ 2000) : ∃ r, Ev (fun k => spec_l7Slot.f k b 0) r := by
  obtain ⟨v0, h0⟩ := pick_ev b hb 0 (by omega) 6 (by omega)
  obtain ⟨K0, h0⟩ := Ev.get h0
  obtain ⟨v1, h1⟩ := pick_ev b hb 1 (by omega) 20 (by omega)
  obtain ⟨K1, h1⟩ := Ev.get h1
  obtain ⟨d0, d1, d2, d3, q, hq, h2⟩ := digest_ev b hb 2 (by omega)
  obtain ⟨K2, h2⟩ := Ev.get h2
  obtain ⟨v3, h3⟩ := pick_ev b hb q (by omega) 14 (by omega)
  obtain ⟨K3, h3⟩ := Ev.get h3
  obtain ⟨v4, h4⟩ := pick_ev b hb (q + 1) (by omega) 3 (by omega)
  obtain ⟨K4, h4⟩ := Ev.get h4
  have h0' : ∀ k, K0 ≤ k → spec_l1Rd_pick.f k b 0 6 = some (v0, ((0 + 1 : Nat) : Int)) := h0
  by_cases c : v3 = 0
  · obtain ⟨r, h5⟩ := j0_ev b hb v3 (q + 1 + 1) (by omega) 0 (IntKind.u64.wrap (wrap64 (999999999 + v4))) (IntKind.u64.wrap (wrap64 (1 + v1))) d0 d1 d2 d3
    obtain ⟨K5, h5⟩ := Ev.get h5
    refine ⟨r, Ev.mk' (K0 + K1 + K2 + K3 + K4 + K5) fun k hk => ?_⟩
    unfold spec_l7Slot.f
    rw [h0' k (by omega), Option.bind_some, h1 k (by omega), Option.bind_some, h2 k (by omega), Option.bind_some, h3 k (by omega), Option.bind_some, if_pos c, h4 k (by omega), Option.bind_some]
    exact h5 k (by omega)
  · obtain ⟨r, h5⟩ := j0_ev b hb v3 (q + 1) (by omega) 0 (IntKind.u64.wrap (wrap64 (1 + v0))) (IntKind.u64.wrap (wrap64 (1 + v1))) d0 d1 d2 d3
    obtain ⟨K5, h5⟩ := Ev.get h5
    refine ⟨r, Ev.mk' (K0 + K1 + K2 + K3 + K5) fun k hk => ?_⟩
    unfold spec_l7Slot.f
    rw [h0' k (by omega), Option.bind_some, h1 k (by omega), Option.bind_some, h2 k (by omega), Option.bind_some, h3 k (by omega), Option.bind_some, if_neg c]
    exact h5 k (by omega)
theorem draw_ev (l : List Int) : ∃ r, Ev (fun k => spec_DrawSlotSum.f k l) r := by
  by_cases h : (l.length : Int) > 2000
  · obtain ⟨r, h1⟩ := l7Slot_ev (l.take 2000) (by rw [List.length_take]; omega)
    obtain ⟨K, h1⟩ := Ev.get h1
    refine ⟨?_, Ev.mk' K fun k hk => ?_⟩
    rotate_left
    · unfold spec_DrawSlotSum.f spec_l1Open.f
      rw [if_pos h, if_pos (by omega), Option.bind_some, h1 k hk, Option.bind_some]
  · obtain ⟨r, h1⟩ := l7Slot_ev l (by omega)
    obtain ⟨K, h1⟩ := Ev.get h1
    refine ⟨?_, Ev.mk' K fun k hk => ?_⟩
    rotate_left
    · unfold spec_DrawSlotSum.f spec_l1Open.f
      rw [if_neg h, Option.bind_some, h1 k hk, Option.bind_some]
theorem or_one (x : Int) : ¬ Go.bits .or .u64 x 1 = 0 := by
  have hb : IntKind.u64.bits = 64 := rfl
  have h1 : ∀ a : Nat, (a ||| 1) % 2 = 1 := fun a => by simp
  unfold Go.bits
  simp only [BitVec.toNat_or, BitVec.toNat_ofInt, hb]
  have h3 : ((1 : Int) % (2 ^ 64 : Nat)).toNat = 1 := by decide
  rw [IntKind.wrap_u64]
  generalize hq : ((x % ((2 ^ 64 : Nat) : Int)).toNat ||| ((1 : Int) % ((2 ^ 64 : Nat) : Int)).toNat) = q
  have h4 : q % 2 = 1 := by rw [← hq, h3]; exact h1 _
  omega
theorem sum_ne (a1 a2 a3 a4 a5 a6 : Int) : ¬ slotSum a1 a2 a3 a4 a5 a6 = 0 := or_one _
theorem wrap_two (s : Int) : ¬ IntKind.u64.wrap (s + 2) = s := by rw [IntKind.wrap_u64]; omega
theorem FnSlotSums : laws_FnSlotSums.Plain := by
  rintro l _
  by_cases hl : (l.length : Int) > 1048576
  · refine ⟨0, ?_⟩
    unfold laws_FnSlotSums.f
    rw [if_pos hl]
  · obtain ⟨⟨s0, s1, s2, s3, s4, s5, s6⟩, h0⟩ := draw_ev l
    obtain ⟨K0, h0⟩ := Ev.get h0
    obtain ⟨K1, h1⟩ := Ev.get (impl_slotSum s0 s1 s2 s3 s4 s5 s6)
    obtain ⟨K2, h2⟩ := Ev.get (spec_slotSum s0 s1 s2 s3 s4 s5 s6)
    obtain ⟨S, hS⟩ : ∃ S, S = slotSum s1 s2 s3 s4 s5 s6 := ⟨_, rfl⟩
    have hS0 : ¬ S = 0 := by rw [hS]; exact sum_ne _ _ _ _ _ _
    obtain ⟨K3, h3⟩ := Ev.get (impl_slotOk S s1 s2 s3 s4 s5 s6)
    obtain ⟨K4, h4⟩ := Ev.get (impl_slotOk 0 s1 s2 s3 s4 s5 s6)
    obtain ⟨K5, h5⟩ := Ev.get (impl_slotOk (IntKind.u64.wrap (S + 2)) s1 s2 s3 s4 s5 s6)
    have e3 : slotOk S s1 s2 s3 s4 s5 s6 = decide (s1 ≥ 1 ∧ s1 ≤ 1000000000 ∧ s2 ≥ 1 ∧ s2 ≤ 256) := by unfold slotOk; rw [← hS]; simp
    have e4 : slotOk 0 s1 s2 s3 s4 s5 s6 = false := by unfold slotOk; rw [← hS]; simp; omega
    have e5 : slotOk (IntKind.u64.wrap (S + 2)) s1 s2 s3 s4 s5 s6 = false := by unfold slotOk; rw [← hS]; have := wrap_two S; simp [this]
    rw [e3] at h3
    rw [e4] at h4
    rw [e5] at h5
    rw [← hS] at h1 h2
    refine ⟨K0 + K1 + K2 + K3 + K4 + K5 + 1, ?_⟩
    obtain ⟨m, hm⟩ : ∃ m, m = K0 + K1 + K2 + K3 + K4 + K5 := ⟨_, rfl⟩
    rw [← hm]
    unfold laws_FnSlotSums.f
    rw [if_neg hl, h0 _ (by omega), Option.bind_some, h1 _ (by omega), Option.bind_some, if_neg hS0, h2 _ (by omega), Option.bind_some]
    have hne : (S != S) = false := by simp
    rw [hne]
    have g3 := h3 m (by omega)
    have g4 := h4 m (by omega)
    have g5 := h5 m (by omega)
    simp only [laws_FnSlotSums.j0, g3, g4, g5, Option.bind_some]
    by_cases c1 : s1 ≥ 1
    · by_cases c2 : s1 ≤ 1000000000
      · by_cases c3 : s2 ≥ 1
        · simp [c1, c2, c3]
        · simp [c1, c2, c3]
      · simp [c1, c2]
    · simp [c1]

end Go.Proofs.Ytcgfgodpiobcfaa.Pure

namespace Go.Proofs.Ytcgfgodpiobcfaa.fnSlotSums
open Go.ChangeShapes Go.WideShapes Go.ChangeAt Go.RowKit Go.Proofs.YtcgfgodpiobcfaaW.PrintWords Go.Proofs.Ytcgfgodpiobcfaa.V
open Go.ChangeMaps (open_string shut_string)
set_option linter.unusedVariables false
theorem own : ownKnob Try.prog.godebug = none := by kernel_rfl
theorem laidOut : laidOutB Try.prog = true := by kernel_rfl
set_option maxRecDepth 100000 in
theorem lifted (os : Os) (started : os.Started) (H : Type) (enc : TypeId × Value → H) :
    ReturnsInHanded {} Try.checked os 8 .any (Rows.fnSlotSumsSpec.pre6 enc Try.prog Try.f8 Rows.fnSlotSumsRow.domain false) (Rows.fnSlotSumsSpec.post enc Try.prog Try.f8 false true false false) := by
  refine returnsInHanded_of_change_sized (C := Try.checked) own started (by kernel_rfl) Try.func8
    (ChangeSpec.witness6 (enc := enc) (C := Try.checked) false ⟨#[], #[.slice none 0 0], []⟩ 8 (by kernel_rfl) (by kernel_rfl) (by kernel_rfl) (by kernel_rfl)) ?_
  intro W base args ds gs before hval0 hW hcnd hsz0 _
  have hval : ∀ (j : Nat) t v, Try.f8.params[j]? = some t → args[j]? = some v → Value.okWide Try.prog W .any base t v := hval0
  have hW' := hW
  obtain ⟨p, q, hA0, hV, rfl, hfz, hnd⟩ := hW
  have hA : DataW.TrodAll enc Try.prog W 0 (fun _ => true) true Try.f8.params.toList args.toList ds p := hA0
  rw [Try.params8] at hA hval
  obtain ⟨v0, vs0, d0, ds0, p0, q0, hargs, rfl, rfl, h0, r0⟩ := trodAll_cons hA
  obtain ⟨rfl, rfl, rfl⟩ := trodAll_nil r0
  obtain rfl : args = #[v0] := by cases args; simp_all
  obtain ⟨rfl, rfl⟩ := trodVars_none hV
  have k0 := h0
  have lt0 : ∀ x ∈ p0, x.block < W.heap.size := by obtain ⟨m, hm⟩ := k0; exact DataW.trod_lt m _ _ _ hm
  obtain ⟨b0, n0, m0, rfl⟩ := okWide_slice Try.underlying55 (hval 0 55 v0 rfl rfl)
  obtain ⟨u0, hf0⟩ := h0
  obtain ⟨l0, ⟨A0, c0, e0, hc0, hr0⟩, hG0⟩ := (opens_slice Try.underlying55 (by kernel_rfl) (opens_int Try.underlying5) 5) _ _ _ _ _ _ _ _ _ hf0
  obtain ⟨rfl, rfl, rfl⟩ : b0 = A0 ∧ n0 = l0.length ∧ m0 = c0 := by simpa [Value.cells] using e0
  clear hA0 hval0 hsz0
  obtain ⟨k, hP⟩ := Go.Proofs.Ytcgfgodpiobcfaa.Pure.FnSlotSums l0 hG0
  refine (laws_FnSlotSums.calls k _ _ l0 true W rfl hr0 hc0 hP).mono fun e W' ⟨he, bel0⟩ => ?_
  have bel : Below W.heap.size W W' := bel0
  subst he
  exact ⟨_, rfl, _, _, _, [], _, [], hW', trodAll_mk1 (shut_bool Try.underlying4 _), (trodAll_cons_mk (Below.trod laidOut (by kernel_rfl) (of_decide_eq_true (by kernel_rfl)) k0 bel lt0) trodAll_mk0), rfl, bel.frame _, fun h => by cases h⟩
theorem over : Rows.fnSlotSumsRow.holds Try.pinned (OpenSpec.ofChange Rows.fnSlotSumsSpec) :=
  OpenClaim.holds_of_wide 8 Try.f8 rfl rfl rfl rfl rfl rfl rfl ⟨rfl, rfl, rfl, rfl, rfl⟩ rfl rfl rfl rfl rfl (by kernel_rfl) Try.func8 (by kernel_rfl)
    (of_decide_eq_true (by kernel_rfl)) (by unfold Func.isWrapper; first | (rw [if_pos (by decide +kernel)]; kernel_rfl) | (rw [if_neg (by decide +kernel)]; exact ⟨rfl, rfl⟩))
    (fun os started H enc _ => lifted os started H enc)
theorem proved : Rows.FnSlotSumsSaid := over
#print axioms proved
end Go.Proofs.Ytcgfgodpiobcfaa.fnSlotSums
namespace Go.Proofs.Ytcgfgodpiobcfaa
/-- The row, under a short name, for the claim. -/
theorem fnSlotSums_holds : Rows.FnSlotSumsSaid := fnSlotSums.proved
end Go.Proofs.Ytcgfgodpiobcfaa
