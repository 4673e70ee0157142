/- The walk of functions of the given program: what each computes, as a Lean function, and that the code comes to it. Written by a program of this session's. No condition but each theorem's own. -/
import Derived.Test.YtcgfgodpiobcfaaMD
namespace Go.Proofs.Ytcgfgodpiobcfaa.M
open Go.RowKit Go.Proofs.YtcgfgodpiobcfaaW.PrintWords Go.Proofs.YtcgfgodpiobcfaaW.PrintLast Go.Proofs.YtcgfgodpiobcfaaW.PrintMore
attribute [local go_sem] max2_int min2_int max_two min_two max_three min_three max_four min_four   -- for this text's walks alone
set_option linter.unusedVariables false
set_option linter.unusedSimpArgs false

/-! ### impl_Raw: function 67 -/
set_option maxHeartbeats 8000000 in
set_option maxRecDepth 100000 in
theorem impl_Raw.calls (A0 : Option Addr) (c0 : Nat) (l0 : List (S92)) (r : List (S92)) (w : World) (hr0 : Kd.C k92 w A0 l0.length l0) (hc0 : l0.length ≤ c0) (h : impl_Raw.f l0 = some r) :
    Calls Try.prog 67 #[.slice A0 l0.length c0] w fun e w' => ∃ v0_ : Value, e = .returned (v0_) ∧ Kd.R k92 92 w' w.heap.size (fun _ => True) v0_ r ∧ Below w.heap.size w w' := by
  have HR0 := Aside0.mk hr0
  have HC0 := Aside0.mk hc0
  clear hr0 hc0
  have HB := Aside0.mk (Below.refl w.heap.size w)
  have H : (if l0.length ≤ 5864062014805 then some l0 else none) = some r := h
  clear h
  by_cases c1 : l0.length ≤ 5864062014805
  · rw [if_pos c1] at H
    obtain rfl := Option.some.inj H
    clear H
    by_cases h0 : l0.length = 0
    · obtain rfl : l0 = [] := List.eq_nil_of_length_eq_zero h0
      clear h0 c1
      go_enter Try.func67, Try.ntmps67
      go_wp2
      go_ret
      exact ⟨_, rfl, Kd.R_nil _ _ _ _ _, by repeat (first | (with_reducible first | exact HB.out | apply below_alloc | apply pw_below_drewN | apply below_drew1) | exact HB.out)⟩
    · have hz0 : ((l0.length : Int) == 0) = false := by simpa using h0
      have C1 := Aside0.mk c1
      clear c1 h0
      go_enter Try.func67, Try.ntmps67
      go_wp2_with (first | ((with_reducible refine gate_dst (N := 9) rfl ?_); refine Kd.R_make k92 _ 92 rfl (N := 9) rfl 41 _ _ rfl (l0.length : Int) rfl rfl Try.underlying41 (.agg #[(.int .i64 0), (.int .i64 0), (.int .u64 0)]) 24 info92 rfl (by decide) (by omega) z92 (ok := fun _ => True) (okp := fun _ => True) (k92_mkM _ _ _ z92) (fun _ hk => hk) trivial (by omega) (Nat.le_trans (Nat.mul_le_mul_right _ (by rw [Int.toNat_natCast]; exact C1.out : (l0.length : Int).toNat ≤ 5864062014805)) (by omega)) (Below.refl _ _) (Nat.le_refl _) ?_; intro v9 w4 ho5 hb hg_ hnew_; rw [Int.toNat_natCast] at ho5; have HO := Aside0.mk ho5; have HB1 := Aside0.mk hb; obtain ⟨b9, hb9, hb9'⟩ := hnew_; have NB := Aside0.mk hb9; have NL := Aside0.mk hb9'; clear hb hg_ ho5 hb9 hb9') | ((with_reducible refine gate_dst (N := 12) rfl ?_); refine Kd.R_copy_all k92 _ rfl _ _ 41 92 rfl Try.underlying41 (by rw [show (Try.prog.info? 92).map (·.size) = ((Try.prog.info? 92).map (fun i => (i.zero, i.size, i.bytes))).map (·.2.1) from by rw [Option.map_map]; rfl, info92]; rfl) (by decide) v9 _ l0 A0 l0.length c0 (fun _ => True) (fun k => some k ≠ v9.ownBlock) rfl rfl (by rw [List.length_replicate]) HO.out (Kd.C_below HR0.out HB1.out) (fun x cs h => (flat_iso (flat_pair (flat_int .i64) (flat_pair (flat_int .i64) (flat_int .u64))) _) _ _ _ _ x cs h) (fun k hk => ⟨trivial, hk⟩) HB1.out HB1.out.size ?_; intro w5 ho6 hb6 hg6; have HO2 := Aside0.mk ho6; have HB2 := Aside0.mk hb6; clear ho6 hb6 hg6))
      go_ret
      exact ⟨_, rfl, HO2.out, HB2.out⟩
  · rw [if_neg c1] at H
    exact absurd H (by simp)

end Go.Proofs.Ytcgfgodpiobcfaa.M
