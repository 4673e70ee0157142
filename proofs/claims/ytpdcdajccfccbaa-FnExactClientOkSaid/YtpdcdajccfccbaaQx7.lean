/- The walk of functions of the given program: what each computes, as a Lean function, and that the code comes to it. Written by a program of this session's. No condition but each theorem's own. -/
import Derived.Test.YtpdcdajccfccbaaQD
import Derived.Test.YtpdcdajccfccbaaQx1
import Derived.Test.YtpdcdajccfccbaaQx6
namespace Go.Proofs.Ytpdcdajccfccbaa.Q
open Go.RowKit Go.Proofs.YtpdcdajccfccbaaW.PrintWords Go.Proofs.YtpdcdajccfccbaaW.PrintLast Go.Proofs.YtpdcdajccfccbaaW.PrintMore
attribute [local go_sem] max2_int min2_int max_two min_two max_three min_three max_four min_four   -- for this text's walks alone
set_option linter.unusedVariables false
set_option linter.unusedSimpArgs false

attribute [local go_sem high] eqA58
/-! ### impl_ClientOk: function 36 -/
set_option maxHeartbeats 8000000 in
set_option maxRecDepth 100000 in
theorem impl_ClientOk.calls (k : Nat) (a0_0 : Int) (a0_1 : Int) (a0_2 : Int) (a0_3 : Int) (a0_4 : Int) (a0_5 : Int) (a0_6 : Int) (a0_7 : Int) (a0_8 : Int) (A0_9 : Option Addr) (c0_9 : Nat) (l0_9 : List Int) (a0_10 : Int) (a0_11 : Int) (a0_12 : Int) (a0_13 : Int) (a0_14 : Int) (r : Bool) (w : World) (hr0_9 : Kd.C (Kd.int .i64) w A0_9 l0_9.length l0_9) (hc0_9 : l0_9.length ≤ c0_9) (h : impl_ClientOk.f k a0_0 a0_1 a0_2 a0_3 a0_4 a0_5 a0_6 a0_7 a0_8 l0_9 a0_10 a0_11 a0_12 a0_13 a0_14 = some r) :
    Calls Try.prog 36 #[.agg #[.int .i64 a0_0, .int .i64 a0_1, .int .i64 a0_2, .int .i64 a0_3, .int .i64 a0_4, .int .u64 a0_5, .int .u64 a0_6, .int .u64 a0_7, .int .u64 a0_8, .slice A0_9 l0_9.length c0_9, .int .i64 a0_10, .int .u64 a0_11, .int .u64 a0_12, .int .u64 a0_13, .int .u64 a0_14]] w fun e w' => e = .returned (.bool r) ∧ Below w.heap.size w w' := by
  have hu61 := Try.underlying61
  have hu58 := Try.underlying58
  have HR0_9 := Aside0.mk hr0_9
  have HC0_9 := Aside0.mk hc0_9
  clear hr0_9 hc0_9
  have HB := Aside0.mk (Below.refl w.heap.size w)
  have H : ((impl_in.f a0_1 1 7).bind fun t117 => (if t117 = true then ((impl_in.f a0_0 1 a0_1).bind fun t118 => (if t118 = true then (if (wrap64 (2 * a0_0)) ≤ a0_1 then (impl_ClientOk.j0 k true a0_0 a0_1 a0_2 a0_3 a0_4 a0_5 a0_6 a0_7 a0_8 l0_9 a0_10 a0_11 a0_12 a0_13 a0_14) else ((impl_in.f a0_2 0 1000000).bind fun t119 => (if t119 = true then (if (!(a0_10 == 0) || ((!(a0_11 == 0) || (!(a0_12 == 0) || (!(a0_13 == 0) || (!(a0_14 == 0))))))) = true then ((impl_in.f a0_10 1 256).bind fun t120 => (impl_ClientOk.j0 k (!t120) a0_0 a0_1 a0_2 a0_3 a0_4 a0_5 a0_6 a0_7 a0_8 l0_9 a0_10 a0_11 a0_12 a0_13 a0_14)) else (impl_ClientOk.j0 k false a0_0 a0_1 a0_2 a0_3 a0_4 a0_5 a0_6 a0_7 a0_8 l0_9 a0_10 a0_11 a0_12 a0_13 a0_14)) else (impl_ClientOk.j0 k true a0_0 a0_1 a0_2 a0_3 a0_4 a0_5 a0_6 a0_7 a0_8 l0_9 a0_10 a0_11 a0_12 a0_13 a0_14)))) else (impl_ClientOk.j0 k true a0_0 a0_1 a0_2 a0_3 a0_4 a0_5 a0_6 a0_7 a0_8 l0_9 a0_10 a0_11 a0_12 a0_13 a0_14))) else (impl_ClientOk.j0 k true a0_0 a0_1 a0_2 a0_3 a0_4 a0_5 a0_6 a0_7 a0_8 l0_9 a0_10 a0_11 a0_12 a0_13 a0_14))) = some r := h
  clear h
  have HC2 := Aside0.mk H
  clear H
  go_enter Try.func36, Try.ntmps36
  go_upto_region 1 with (first | ((with_reducible refine gate_dst (N := 1) rfl ?_); (try (refine gate_guard (by rfl) ?_; dsimp only)); refine box_event ?hg (N := 1) ?hd (cs := #[.int .i64 a0_0, .int .i64 a0_1, .int .i64 a0_2, .int .i64 a0_3, .int .i64 a0_4, .int .u64 a0_5, .int .u64 a0_6, .int .u64 a0_7, .int .u64 a0_8, .slice A0_9 l0_9.length c0_9, .int .i64 a0_10, .int .u64 a0_11, .int .u64 a0_12, .int .u64 a0_13, .int .u64 a0_14]) (t := 61) ?hr ?_; (case hd => rfl); (case hg => rfl); (case hr => first | (go_simp; done) | (go_simp; rfl)); intro gb116 hg w3 hbox hb; have n0_ := Aside0.mk (below_step (by repeat (first | (with_reducible first | exact HB.out | apply below_alloc | apply pw_below_drewN | apply below_drew1) | exact HB.out)) hb); have n1_ := Aside0.mk (hbox); have n2_ := Aside0.mk ((by rw [hg]; exact (below_size (by repeat (first | (with_reducible first | exact HB.out | apply below_alloc | apply pw_below_drewN | apply below_drew1) | exact HB.out))) : w.heap.size ≤ gb116)); have n3_ := Aside0.mk ((by rw [hg]; exact (below_size (by repeat (first | (with_reducible first | exact HB.out | apply below_alloc | apply pw_below_drewN | apply below_drew1) | exact HB.out))) : w.heap.size ≤ gb116)); clear HB; have HB := n0_; have BK116 := n1_; have GW116 := n2_; have GE116 := n3_; clear n0_ n1_ n2_ n3_; clear hb hbox hg))
  (try simp only [Act.put, List.setIfInBounds_toArray, List.set_cons_zero, List.set_cons_succ])
  go_cut [43] (fun v43 wc => ∃ (kq : Nat) (x43_1 : Bool), v43 = .bool x43_1 ∧ Aside0 (impl_ClientOk.j0 kq x43_1 a0_0 a0_1 a0_2 a0_3 a0_4 a0_5 a0_6 a0_7 a0_8 l0_9 a0_10 a0_11 a0_12 a0_13 a0_14 = some r) ∧ Aside0 (kq ≤ k) ∧ Aside0 (wc.heap[gb116]? = some (.cells #[.int .i64 a0_0, .int .i64 a0_1, .int .i64 a0_2, .int .i64 a0_3, .int .i64 a0_4, .int .u64 a0_5, .int .u64 a0_6, .int .u64 a0_7, .int .u64 a0_8, (.slice A0_9 l0_9.length c0_9), .int .i64 a0_10, .int .u64 a0_11, .int .u64 a0_12, .int .u64 a0_13, .int .u64 a0_14] 61 (0, 0))) ∧ Aside0 (Below w.heap.size w wc))
  case first =>
    have H := HC2.out
    clear HC2
    replace H := Option.bind_eq_some_iff.mp H
    obtain ⟨t117, A40, H⟩ := H
    replace H : (if t117 = true then ((impl_in.f a0_0 1 a0_1).bind fun t118 => (if t118 = true then (if (wrap64 (2 * a0_0)) ≤ a0_1 then (impl_ClientOk.j0 k true a0_0 a0_1 a0_2 a0_3 a0_4 a0_5 a0_6 a0_7 a0_8 l0_9 a0_10 a0_11 a0_12 a0_13 a0_14) else ((impl_in.f a0_2 0 1000000).bind fun t119 => (if t119 = true then (if (!(a0_10 == 0) || ((!(a0_11 == 0) || (!(a0_12 == 0) || (!(a0_13 == 0) || (!(a0_14 == 0))))))) = true then ((impl_in.f a0_10 1 256).bind fun t120 => (impl_ClientOk.j0 k (!t120) a0_0 a0_1 a0_2 a0_3 a0_4 a0_5 a0_6 a0_7 a0_8 l0_9 a0_10 a0_11 a0_12 a0_13 a0_14)) else (impl_ClientOk.j0 k false a0_0 a0_1 a0_2 a0_3 a0_4 a0_5 a0_6 a0_7 a0_8 l0_9 a0_10 a0_11 a0_12 a0_13 a0_14)) else (impl_ClientOk.j0 k true a0_0 a0_1 a0_2 a0_3 a0_4 a0_5 a0_6 a0_7 a0_8 l0_9 a0_10 a0_11 a0_12 a0_13 a0_14)))) else (impl_ClientOk.j0 k true a0_0 a0_1 a0_2 a0_3 a0_4 a0_5 a0_6 a0_7 a0_8 l0_9 a0_10 a0_11 a0_12 a0_13 a0_14))) else (impl_ClientOk.j0 k true a0_0 a0_1 a0_2 a0_3 a0_4 a0_5 a0_6 a0_7 a0_8 l0_9 a0_10 a0_11 a0_12 a0_13 a0_14)) = some r := H
    have A4 := Aside0.mk A40
    clear A40
    by_cases c5 : t117 = true
    · subst c5
      have H1 : ((impl_in.f a0_0 1 a0_1).bind fun t118 => (if t118 = true then (if (wrap64 (2 * a0_0)) ≤ a0_1 then (impl_ClientOk.j0 k true a0_0 a0_1 a0_2 a0_3 a0_4 a0_5 a0_6 a0_7 a0_8 l0_9 a0_10 a0_11 a0_12 a0_13 a0_14) else ((impl_in.f a0_2 0 1000000).bind fun t119 => (if t119 = true then (if (!(a0_10 == 0) || ((!(a0_11 == 0) || (!(a0_12 == 0) || (!(a0_13 == 0) || (!(a0_14 == 0))))))) = true then ((impl_in.f a0_10 1 256).bind fun t120 => (impl_ClientOk.j0 k (!t120) a0_0 a0_1 a0_2 a0_3 a0_4 a0_5 a0_6 a0_7 a0_8 l0_9 a0_10 a0_11 a0_12 a0_13 a0_14)) else (impl_ClientOk.j0 k false a0_0 a0_1 a0_2 a0_3 a0_4 a0_5 a0_6 a0_7 a0_8 l0_9 a0_10 a0_11 a0_12 a0_13 a0_14)) else (impl_ClientOk.j0 k true a0_0 a0_1 a0_2 a0_3 a0_4 a0_5 a0_6 a0_7 a0_8 l0_9 a0_10 a0_11 a0_12 a0_13 a0_14)))) else (impl_ClientOk.j0 k true a0_0 a0_1 a0_2 a0_3 a0_4 a0_5 a0_6 a0_7 a0_8 l0_9 a0_10 a0_11 a0_12 a0_13 a0_14))) = some r := by rw [if_pos rfl] at H; exact H
      clear H
      have H := H1
      clear H1
      replace H := Option.bind_eq_some_iff.mp H
      obtain ⟨t118, A60, H⟩ := H
      replace H : (if t118 = true then (if (wrap64 (2 * a0_0)) ≤ a0_1 then (impl_ClientOk.j0 k true a0_0 a0_1 a0_2 a0_3 a0_4 a0_5 a0_6 a0_7 a0_8 l0_9 a0_10 a0_11 a0_12 a0_13 a0_14) else ((impl_in.f a0_2 0 1000000).bind fun t119 => (if t119 = true then (if (!(a0_10 == 0) || ((!(a0_11 == 0) || (!(a0_12 == 0) || (!(a0_13 == 0) || (!(a0_14 == 0))))))) = true then ((impl_in.f a0_10 1 256).bind fun t120 => (impl_ClientOk.j0 k (!t120) a0_0 a0_1 a0_2 a0_3 a0_4 a0_5 a0_6 a0_7 a0_8 l0_9 a0_10 a0_11 a0_12 a0_13 a0_14)) else (impl_ClientOk.j0 k false a0_0 a0_1 a0_2 a0_3 a0_4 a0_5 a0_6 a0_7 a0_8 l0_9 a0_10 a0_11 a0_12 a0_13 a0_14)) else (impl_ClientOk.j0 k true a0_0 a0_1 a0_2 a0_3 a0_4 a0_5 a0_6 a0_7 a0_8 l0_9 a0_10 a0_11 a0_12 a0_13 a0_14)))) else (impl_ClientOk.j0 k true a0_0 a0_1 a0_2 a0_3 a0_4 a0_5 a0_6 a0_7 a0_8 l0_9 a0_10 a0_11 a0_12 a0_13 a0_14)) = some r := H
      have A6 := Aside0.mk A60
      clear A60
      by_cases c7 : t118 = true
      · subst c7
        have H1 : (if (wrap64 (2 * a0_0)) ≤ a0_1 then (impl_ClientOk.j0 k true a0_0 a0_1 a0_2 a0_3 a0_4 a0_5 a0_6 a0_7 a0_8 l0_9 a0_10 a0_11 a0_12 a0_13 a0_14) else ((impl_in.f a0_2 0 1000000).bind fun t119 => (if t119 = true then (if (!(a0_10 == 0) || ((!(a0_11 == 0) || (!(a0_12 == 0) || (!(a0_13 == 0) || (!(a0_14 == 0))))))) = true then ((impl_in.f a0_10 1 256).bind fun t120 => (impl_ClientOk.j0 k (!t120) a0_0 a0_1 a0_2 a0_3 a0_4 a0_5 a0_6 a0_7 a0_8 l0_9 a0_10 a0_11 a0_12 a0_13 a0_14)) else (impl_ClientOk.j0 k false a0_0 a0_1 a0_2 a0_3 a0_4 a0_5 a0_6 a0_7 a0_8 l0_9 a0_10 a0_11 a0_12 a0_13 a0_14)) else (impl_ClientOk.j0 k true a0_0 a0_1 a0_2 a0_3 a0_4 a0_5 a0_6 a0_7 a0_8 l0_9 a0_10 a0_11 a0_12 a0_13 a0_14)))) = some r := by rw [if_pos rfl] at H; exact H
        clear H
        have H := H1
        clear H1
        by_cases c8 : (wrap64 (2 * a0_0)) ≤ a0_1
        · rw [if_pos c8] at H
          have c8b0 : decide ((wrap64 (2 * a0_0)) ≤ a0_1) = true := decide_eq_true c8
          clear c8
          (first | rw [c8b0] | (simp only [i64_w, i32_w]; rw [c8b0]) | skip)
          have H' := Aside0.mk H
          clear H
          have hcz9_0 : w3.cell? ⟨gb116, 0, none⟩ = some (.int .i64 a0_0) := (blk_cell BK116.out 0).trans rfl
          have hcz9_1 : w3.cell? ⟨gb116, 1, none⟩ = some (.int .i64 a0_1) := (blk_cell BK116.out 1).trans rfl
          have hcz9_2 : w3.cell? ⟨gb116, 2, none⟩ = some (.int .i64 a0_2) := (blk_cell BK116.out 2).trans rfl
          have hcz9_3 : w3.cell? ⟨gb116, 3, none⟩ = some (.int .i64 a0_3) := (blk_cell BK116.out 3).trans rfl
          have hcz9_4 : w3.cell? ⟨gb116, 4, none⟩ = some (.int .i64 a0_4) := (blk_cell BK116.out 4).trans rfl
          have hcz9_5 : w3.cell? ⟨gb116, 5, none⟩ = some (.int .u64 a0_5) := (blk_cell BK116.out 5).trans rfl
          have hcz9_6 : w3.cell? ⟨gb116, 6, none⟩ = some (.int .u64 a0_6) := (blk_cell BK116.out 6).trans rfl
          have hcz9_7 : w3.cell? ⟨gb116, 7, none⟩ = some (.int .u64 a0_7) := (blk_cell BK116.out 7).trans rfl
          have hcz9_8 : w3.cell? ⟨gb116, 8, none⟩ = some (.int .u64 a0_8) := (blk_cell BK116.out 8).trans rfl
          have hcz9_9 : w3.cell? ⟨gb116, 9, none⟩ = some (.slice A0_9 l0_9.length c0_9) := (blk_cell BK116.out 9).trans rfl
          have hcz9_10 : w3.cell? ⟨gb116, 10, none⟩ = some (.int .i64 a0_10) := (blk_cell BK116.out 10).trans rfl
          have hcz9_11 : w3.cell? ⟨gb116, 11, none⟩ = some (.int .u64 a0_11) := (blk_cell BK116.out 11).trans rfl
          have hcz9_12 : w3.cell? ⟨gb116, 12, none⟩ = some (.int .u64 a0_12) := (blk_cell BK116.out 12).trans rfl
          have hcz9_13 : w3.cell? ⟨gb116, 13, none⟩ = some (.int .u64 a0_13) := (blk_cell BK116.out 13).trans rfl
          have hcz9_14 : w3.cell? ⟨gb116, 14, none⟩ = some (.int .u64 a0_14) := (blk_cell BK116.out 14).trans rfl
          have hfz9_0 := blk_frozen BK116.out 0
          have hfz9_1 := blk_frozen BK116.out 1
          have hfz9_2 := blk_frozen BK116.out 2
          have hfz9_3 := blk_frozen BK116.out 3
          have hfz9_4 := blk_frozen BK116.out 4
          have hfz9_5 := blk_frozen BK116.out 5
          have hfz9_6 := blk_frozen BK116.out 6
          have hfz9_7 := blk_frozen BK116.out 7
          have hfz9_8 := blk_frozen BK116.out 8
          have hfz9_9 := blk_frozen BK116.out 9
          have hfz9_10 := blk_frozen BK116.out 10
          have hfz9_11 := blk_frozen BK116.out 11
          have hfz9_12 := blk_frozen BK116.out 12
          have hfz9_13 := blk_frozen BK116.out 13
          have hfz9_14 := blk_frozen BK116.out 14
          go_wp2_with (first | ((with_reducible refine gate_callee (f := 38) rfl ?_); refine goesL_ (some 7) rfl rfl Try.func38 (by kernel_rfl) rfl #[.int .i64 a0_1, .int .i64 1, .int .i64 7] rfl (by (try simp only [List.map_toArray, List.map_cons, List.map_nil]); first | done | rfl | (simp only [List.length_drop, List.length_take]; rfl)) ?_; (with_reducible refine (impl_in.calls a0_1 1 7 true _ A4.out).mono ?_); rintro e w' ⟨rfl, ⟨nd, rfl⟩⟩; refine ⟨_, rfl, ?_⟩) | (go_at_call 38; (with_reducible refine (impl_in.calls a0_0 1 a0_1 true _ A6.out).mono ?_); rintro e w' ⟨rfl, ⟨nd, rfl⟩⟩))
          go_meet
          case rel => exact ⟨_, (true), (by first | rfl | (simp; done) | (simp [*]; done)), H', ⟨by first | omega | exact Nat.le_refl _⟩, ⟨by (with_reducible repeat (first | refine blk_drewN ?_ _ | refine blk_drew ?_ | refine blk_alloc ?_ _)); exact BK116.out⟩, ⟨by repeat (first | (with_reducible first | exact HB.out | apply below_alloc | apply pw_below_drewN | apply below_drew1 | refine below_set ?_ GE116.out) | exact HB.out)⟩⟩
        · rw [if_neg c8] at H
          have c8b0 : decide ((wrap64 (2 * a0_0)) ≤ a0_1) = false := decide_eq_false c8
          clear c8
          (first | rw [c8b0] | (simp only [i64_w, i32_w]; rw [c8b0]) | skip)
          replace H := Option.bind_eq_some_iff.mp H
          obtain ⟨t119, A100, H⟩ := H
          replace H : (if t119 = true then (if (!(a0_10 == 0) || ((!(a0_11 == 0) || (!(a0_12 == 0) || (!(a0_13 == 0) || (!(a0_14 == 0))))))) = true then ((impl_in.f a0_10 1 256).bind fun t120 => (impl_ClientOk.j0 k (!t120) a0_0 a0_1 a0_2 a0_3 a0_4 a0_5 a0_6 a0_7 a0_8 l0_9 a0_10 a0_11 a0_12 a0_13 a0_14)) else (impl_ClientOk.j0 k false a0_0 a0_1 a0_2 a0_3 a0_4 a0_5 a0_6 a0_7 a0_8 l0_9 a0_10 a0_11 a0_12 a0_13 a0_14)) else (impl_ClientOk.j0 k true a0_0 a0_1 a0_2 a0_3 a0_4 a0_5 a0_6 a0_7 a0_8 l0_9 a0_10 a0_11 a0_12 a0_13 a0_14)) = some r := H
          have A10 := Aside0.mk A100
          clear A100
          by_cases c11 : t119 = true
          · subst c11
            have H1 : (if (!(a0_10 == 0) || ((!(a0_11 == 0) || (!(a0_12 == 0) || (!(a0_13 == 0) || (!(a0_14 == 0))))))) = true then ((impl_in.f a0_10 1 256).bind fun t120 => (impl_ClientOk.j0 k (!t120) a0_0 a0_1 a0_2 a0_3 a0_4 a0_5 a0_6 a0_7 a0_8 l0_9 a0_10 a0_11 a0_12 a0_13 a0_14)) else (impl_ClientOk.j0 k false a0_0 a0_1 a0_2 a0_3 a0_4 a0_5 a0_6 a0_7 a0_8 l0_9 a0_10 a0_11 a0_12 a0_13 a0_14)) = some r := by rw [if_pos rfl] at H; exact H
            clear H
            have H := H1
            clear H1
            by_cases c12 : (!(a0_10 == 0) || ((!(a0_11 == 0) || (!(a0_12 == 0) || (!(a0_13 == 0) || (!(a0_14 == 0))))))) = true
            · rw [if_pos c12] at H
              have c12b0 : (!(a0_10 == 0) || ((!(a0_11 == 0) || (!(a0_12 == 0) || (!(a0_13 == 0) || (!(a0_14 == 0))))))) = true := c12
              clear c12
              replace H := Option.bind_eq_some_iff.mp H
              obtain ⟨t120, A130, H⟩ := H
              replace H : (impl_ClientOk.j0 k (!t120) a0_0 a0_1 a0_2 a0_3 a0_4 a0_5 a0_6 a0_7 a0_8 l0_9 a0_10 a0_11 a0_12 a0_13 a0_14) = some r := H
              have A13 := Aside0.mk A130
              clear A130
              have H' := Aside0.mk H
              clear H
              have hcz14_0 : w3.cell? ⟨gb116, 0, none⟩ = some (.int .i64 a0_0) := (blk_cell BK116.out 0).trans rfl
              have hcz14_1 : w3.cell? ⟨gb116, 1, none⟩ = some (.int .i64 a0_1) := (blk_cell BK116.out 1).trans rfl
              have hcz14_2 : w3.cell? ⟨gb116, 2, none⟩ = some (.int .i64 a0_2) := (blk_cell BK116.out 2).trans rfl
              have hcz14_3 : w3.cell? ⟨gb116, 3, none⟩ = some (.int .i64 a0_3) := (blk_cell BK116.out 3).trans rfl
              have hcz14_4 : w3.cell? ⟨gb116, 4, none⟩ = some (.int .i64 a0_4) := (blk_cell BK116.out 4).trans rfl
              have hcz14_5 : w3.cell? ⟨gb116, 5, none⟩ = some (.int .u64 a0_5) := (blk_cell BK116.out 5).trans rfl
              have hcz14_6 : w3.cell? ⟨gb116, 6, none⟩ = some (.int .u64 a0_6) := (blk_cell BK116.out 6).trans rfl
              have hcz14_7 : w3.cell? ⟨gb116, 7, none⟩ = some (.int .u64 a0_7) := (blk_cell BK116.out 7).trans rfl
              have hcz14_8 : w3.cell? ⟨gb116, 8, none⟩ = some (.int .u64 a0_8) := (blk_cell BK116.out 8).trans rfl
              have hcz14_9 : w3.cell? ⟨gb116, 9, none⟩ = some (.slice A0_9 l0_9.length c0_9) := (blk_cell BK116.out 9).trans rfl
              have hcz14_10 : w3.cell? ⟨gb116, 10, none⟩ = some (.int .i64 a0_10) := (blk_cell BK116.out 10).trans rfl
              have hcz14_11 : w3.cell? ⟨gb116, 11, none⟩ = some (.int .u64 a0_11) := (blk_cell BK116.out 11).trans rfl
              have hcz14_12 : w3.cell? ⟨gb116, 12, none⟩ = some (.int .u64 a0_12) := (blk_cell BK116.out 12).trans rfl
              have hcz14_13 : w3.cell? ⟨gb116, 13, none⟩ = some (.int .u64 a0_13) := (blk_cell BK116.out 13).trans rfl
              have hcz14_14 : w3.cell? ⟨gb116, 14, none⟩ = some (.int .u64 a0_14) := (blk_cell BK116.out 14).trans rfl
              have hfz14_0 := blk_frozen BK116.out 0
              have hfz14_1 := blk_frozen BK116.out 1
              have hfz14_2 := blk_frozen BK116.out 2
              have hfz14_3 := blk_frozen BK116.out 3
              have hfz14_4 := blk_frozen BK116.out 4
              have hfz14_5 := blk_frozen BK116.out 5
              have hfz14_6 := blk_frozen BK116.out 6
              have hfz14_7 := blk_frozen BK116.out 7
              have hfz14_8 := blk_frozen BK116.out 8
              have hfz14_9 := blk_frozen BK116.out 9
              have hfz14_10 := blk_frozen BK116.out 10
              have hfz14_11 := blk_frozen BK116.out 11
              have hfz14_12 := blk_frozen BK116.out 12
              have hfz14_13 := blk_frozen BK116.out 13
              have hfz14_14 := blk_frozen BK116.out 14
              go_wp2_with (first | ((with_reducible refine gate_callee (f := 38) rfl ?_); refine goesL_ (some 7) rfl rfl Try.func38 (by kernel_rfl) rfl #[.int .i64 a0_1, .int .i64 1, .int .i64 7] rfl (by (try simp only [List.map_toArray, List.map_cons, List.map_nil]); first | done | rfl | (simp only [List.length_drop, List.length_take]; rfl)) ?_; (with_reducible refine (impl_in.calls a0_1 1 7 true _ A4.out).mono ?_); rintro e w' ⟨rfl, ⟨nd, rfl⟩⟩; refine ⟨_, rfl, ?_⟩) | (go_at_call 38; (with_reducible refine (impl_in.calls a0_0 1 a0_1 true _ A6.out).mono ?_); rintro e w' ⟨rfl, ⟨nd, rfl⟩⟩) | (go_at_call 38; (with_reducible refine (impl_in.calls a0_2 0 1000000 true _ A10.out).mono ?_); rintro e w' ⟨rfl, ⟨nd, rfl⟩⟩) | (go_at_call 38; (with_reducible refine (impl_in.calls a0_10 1 256 t120 _ A13.out).mono ?_); rintro e w' ⟨rfl, ⟨nd, rfl⟩⟩))
              go_meet
              case rel => exact ⟨_, (!t120), (by first | rfl | (simp; done) | (simp [*]; done)), H', ⟨by first | omega | exact Nat.le_refl _⟩, ⟨by (with_reducible repeat (first | refine blk_drewN ?_ _ | refine blk_drew ?_ | refine blk_alloc ?_ _)); exact BK116.out⟩, ⟨by repeat (first | (with_reducible first | exact HB.out | apply below_alloc | apply pw_below_drewN | apply below_drew1 | refine below_set ?_ GE116.out) | exact HB.out)⟩⟩
            · rw [if_neg c12] at H
              have c12b0 : (!(a0_10 == 0) || ((!(a0_11 == 0) || (!(a0_12 == 0) || (!(a0_13 == 0) || (!(a0_14 == 0))))))) = false := by simpa using c12
              clear c12
              have H' := Aside0.mk H
              clear H
              have hcz15_0 : w3.cell? ⟨gb116, 0, none⟩ = some (.int .i64 a0_0) := (blk_cell BK116.out 0).trans rfl
              have hcz15_1 : w3.cell? ⟨gb116, 1, none⟩ = some (.int .i64 a0_1) := (blk_cell BK116.out 1).trans rfl
              have hcz15_2 : w3.cell? ⟨gb116, 2, none⟩ = some (.int .i64 a0_2) := (blk_cell BK116.out 2).trans rfl
              have hcz15_3 : w3.cell? ⟨gb116, 3, none⟩ = some (.int .i64 a0_3) := (blk_cell BK116.out 3).trans rfl
              have hcz15_4 : w3.cell? ⟨gb116, 4, none⟩ = some (.int .i64 a0_4) := (blk_cell BK116.out 4).trans rfl
              have hcz15_5 : w3.cell? ⟨gb116, 5, none⟩ = some (.int .u64 a0_5) := (blk_cell BK116.out 5).trans rfl
              have hcz15_6 : w3.cell? ⟨gb116, 6, none⟩ = some (.int .u64 a0_6) := (blk_cell BK116.out 6).trans rfl
              have hcz15_7 : w3.cell? ⟨gb116, 7, none⟩ = some (.int .u64 a0_7) := (blk_cell BK116.out 7).trans rfl
              have hcz15_8 : w3.cell? ⟨gb116, 8, none⟩ = some (.int .u64 a0_8) := (blk_cell BK116.out 8).trans rfl
              have hcz15_9 : w3.cell? ⟨gb116, 9, none⟩ = some (.slice A0_9 l0_9.length c0_9) := (blk_cell BK116.out 9).trans rfl
              have hcz15_10 : w3.cell? ⟨gb116, 10, none⟩ = some (.int .i64 a0_10) := (blk_cell BK116.out 10).trans rfl
              have hcz15_11 : w3.cell? ⟨gb116, 11, none⟩ = some (.int .u64 a0_11) := (blk_cell BK116.out 11).trans rfl
              have hcz15_12 : w3.cell? ⟨gb116, 12, none⟩ = some (.int .u64 a0_12) := (blk_cell BK116.out 12).trans rfl
              have hcz15_13 : w3.cell? ⟨gb116, 13, none⟩ = some (.int .u64 a0_13) := (blk_cell BK116.out 13).trans rfl
              have hcz15_14 : w3.cell? ⟨gb116, 14, none⟩ = some (.int .u64 a0_14) := (blk_cell BK116.out 14).trans rfl
              have hfz15_0 := blk_frozen BK116.out 0
              have hfz15_1 := blk_frozen BK116.out 1
              have hfz15_2 := blk_frozen BK116.out 2
              have hfz15_3 := blk_frozen BK116.out 3
              have hfz15_4 := blk_frozen BK116.out 4
              have hfz15_5 := blk_frozen BK116.out 5
              have hfz15_6 := blk_frozen BK116.out 6
              have hfz15_7 := blk_frozen BK116.out 7
              have hfz15_8 := blk_frozen BK116.out 8
              have hfz15_9 := blk_frozen BK116.out 9
              have hfz15_10 := blk_frozen BK116.out 10
              have hfz15_11 := blk_frozen BK116.out 11
              have hfz15_12 := blk_frozen BK116.out 12
              have hfz15_13 := blk_frozen BK116.out 13
              have hfz15_14 := blk_frozen BK116.out 14
              go_wp2_with (first | ((with_reducible refine gate_callee (f := 38) rfl ?_); refine goesL_ (some 7) rfl rfl Try.func38 (by kernel_rfl) rfl #[.int .i64 a0_1, .int .i64 1, .int .i64 7] rfl (by (try simp only [List.map_toArray, List.map_cons, List.map_nil]); first | done | rfl | (simp only [List.length_drop, List.length_take]; rfl)) ?_; (with_reducible refine (impl_in.calls a0_1 1 7 true _ A4.out).mono ?_); rintro e w' ⟨rfl, ⟨nd, rfl⟩⟩; refine ⟨_, rfl, ?_⟩) | (go_at_call 38; (with_reducible refine (impl_in.calls a0_0 1 a0_1 true _ A6.out).mono ?_); rintro e w' ⟨rfl, ⟨nd, rfl⟩⟩) | (go_at_call 38; (with_reducible refine (impl_in.calls a0_2 0 1000000 true _ A10.out).mono ?_); rintro e w' ⟨rfl, ⟨nd, rfl⟩⟩))
              go_meet
              case rel => exact ⟨_, (false), (by first | rfl | (simp; done) | (simp [*]; done)), H', ⟨by first | omega | exact Nat.le_refl _⟩, ⟨by (with_reducible repeat (first | refine blk_drewN ?_ _ | refine blk_drew ?_ | refine blk_alloc ?_ _)); exact BK116.out⟩, ⟨by repeat (first | (with_reducible first | exact HB.out | apply below_alloc | apply pw_below_drewN | apply below_drew1 | refine below_set ?_ GE116.out) | exact HB.out)⟩⟩
          · replace c11 := Bool.eq_false_iff.mpr c11
            subst c11
            have H1 : (impl_ClientOk.j0 k true a0_0 a0_1 a0_2 a0_3 a0_4 a0_5 a0_6 a0_7 a0_8 l0_9 a0_10 a0_11 a0_12 a0_13 a0_14) = some r := by rw [if_neg (show ¬ (false = true) by decide)] at H; exact H
            clear H
            have H := H1
            clear H1
            have H' := Aside0.mk H
            clear H
            have hcz16_0 : w3.cell? ⟨gb116, 0, none⟩ = some (.int .i64 a0_0) := (blk_cell BK116.out 0).trans rfl
            have hcz16_1 : w3.cell? ⟨gb116, 1, none⟩ = some (.int .i64 a0_1) := (blk_cell BK116.out 1).trans rfl
            have hcz16_2 : w3.cell? ⟨gb116, 2, none⟩ = some (.int .i64 a0_2) := (blk_cell BK116.out 2).trans rfl
            have hcz16_3 : w3.cell? ⟨gb116, 3, none⟩ = some (.int .i64 a0_3) := (blk_cell BK116.out 3).trans rfl
            have hcz16_4 : w3.cell? ⟨gb116, 4, none⟩ = some (.int .i64 a0_4) := (blk_cell BK116.out 4).trans rfl
            have hcz16_5 : w3.cell? ⟨gb116, 5, none⟩ = some (.int .u64 a0_5) := (blk_cell BK116.out 5).trans rfl
            have hcz16_6 : w3.cell? ⟨gb116, 6, none⟩ = some (.int .u64 a0_6) := (blk_cell BK116.out 6).trans rfl
            have hcz16_7 : w3.cell? ⟨gb116, 7, none⟩ = some (.int .u64 a0_7) := (blk_cell BK116.out 7).trans rfl
            have hcz16_8 : w3.cell? ⟨gb116, 8, none⟩ = some (.int .u64 a0_8) := (blk_cell BK116.out 8).trans rfl
            have hcz16_9 : w3.cell? ⟨gb116, 9, none⟩ = some (.slice A0_9 l0_9.length c0_9) := (blk_cell BK116.out 9).trans rfl
            have hcz16_10 : w3.cell? ⟨gb116, 10, none⟩ = some (.int .i64 a0_10) := (blk_cell BK116.out 10).trans rfl
            have hcz16_11 : w3.cell? ⟨gb116, 11, none⟩ = some (.int .u64 a0_11) := (blk_cell BK116.out 11).trans rfl
            have hcz16_12 : w3.cell? ⟨gb116, 12, none⟩ = some (.int .u64 a0_12) := (blk_cell BK116.out 12).trans rfl
            have hcz16_13 : w3.cell? ⟨gb116, 13, none⟩ = some (.int .u64 a0_13) := (blk_cell BK116.out 13).trans rfl
            have hcz16_14 : w3.cell? ⟨gb116, 14, none⟩ = some (.int .u64 a0_14) := (blk_cell BK116.out 14).trans rfl
            have hfz16_0 := blk_frozen BK116.out 0
            have hfz16_1 := blk_frozen BK116.out 1
            have hfz16_2 := blk_frozen BK116.out 2
            have hfz16_3 := blk_frozen BK116.out 3
            have hfz16_4 := blk_frozen BK116.out 4
            have hfz16_5 := blk_frozen BK116.out 5
            have hfz16_6 := blk_frozen BK116.out 6
            have hfz16_7 := blk_frozen BK116.out 7
            have hfz16_8 := blk_frozen BK116.out 8
            have hfz16_9 := blk_frozen BK116.out 9
            have hfz16_10 := blk_frozen BK116.out 10
            have hfz16_11 := blk_frozen BK116.out 11
            have hfz16_12 := blk_frozen BK116.out 12
            have hfz16_13 := blk_frozen BK116.out 13
            have hfz16_14 := blk_frozen BK116.out 14
            go_wp2_with (first | ((with_reducible refine gate_callee (f := 38) rfl ?_); refine goesL_ (some 7) rfl rfl Try.func38 (by kernel_rfl) rfl #[.int .i64 a0_1, .int .i64 1, .int .i64 7] rfl (by (try simp only [List.map_toArray, List.map_cons, List.map_nil]); first | done | rfl | (simp only [List.length_drop, List.length_take]; rfl)) ?_; (with_reducible refine (impl_in.calls a0_1 1 7 true _ A4.out).mono ?_); rintro e w' ⟨rfl, ⟨nd, rfl⟩⟩; refine ⟨_, rfl, ?_⟩) | (go_at_call 38; (with_reducible refine (impl_in.calls a0_0 1 a0_1 true _ A6.out).mono ?_); rintro e w' ⟨rfl, ⟨nd, rfl⟩⟩) | (go_at_call 38; (with_reducible refine (impl_in.calls a0_2 0 1000000 false _ A10.out).mono ?_); rintro e w' ⟨rfl, ⟨nd, rfl⟩⟩))
            go_meet
            case rel => exact ⟨_, (true), (by first | rfl | (simp; done) | (simp [*]; done)), H', ⟨by first | omega | exact Nat.le_refl _⟩, ⟨by (with_reducible repeat (first | refine blk_drewN ?_ _ | refine blk_drew ?_ | refine blk_alloc ?_ _)); exact BK116.out⟩, ⟨by repeat (first | (with_reducible first | exact HB.out | apply below_alloc | apply pw_below_drewN | apply below_drew1 | refine below_set ?_ GE116.out) | exact HB.out)⟩⟩
      · replace c7 := Bool.eq_false_iff.mpr c7
        subst c7
        have H1 : (impl_ClientOk.j0 k true a0_0 a0_1 a0_2 a0_3 a0_4 a0_5 a0_6 a0_7 a0_8 l0_9 a0_10 a0_11 a0_12 a0_13 a0_14) = some r := by rw [if_neg (show ¬ (false = true) by decide)] at H; exact H
        clear H
        have H := H1
        clear H1
        have H' := Aside0.mk H
        clear H
        have hcz17_0 : w3.cell? ⟨gb116, 0, none⟩ = some (.int .i64 a0_0) := (blk_cell BK116.out 0).trans rfl
        have hcz17_1 : w3.cell? ⟨gb116, 1, none⟩ = some (.int .i64 a0_1) := (blk_cell BK116.out 1).trans rfl
        have hcz17_2 : w3.cell? ⟨gb116, 2, none⟩ = some (.int .i64 a0_2) := (blk_cell BK116.out 2).trans rfl
        have hcz17_3 : w3.cell? ⟨gb116, 3, none⟩ = some (.int .i64 a0_3) := (blk_cell BK116.out 3).trans rfl
        have hcz17_4 : w3.cell? ⟨gb116, 4, none⟩ = some (.int .i64 a0_4) := (blk_cell BK116.out 4).trans rfl
        have hcz17_5 : w3.cell? ⟨gb116, 5, none⟩ = some (.int .u64 a0_5) := (blk_cell BK116.out 5).trans rfl
        have hcz17_6 : w3.cell? ⟨gb116, 6, none⟩ = some (.int .u64 a0_6) := (blk_cell BK116.out 6).trans rfl
        have hcz17_7 : w3.cell? ⟨gb116, 7, none⟩ = some (.int .u64 a0_7) := (blk_cell BK116.out 7).trans rfl
        have hcz17_8 : w3.cell? ⟨gb116, 8, none⟩ = some (.int .u64 a0_8) := (blk_cell BK116.out 8).trans rfl
        have hcz17_9 : w3.cell? ⟨gb116, 9, none⟩ = some (.slice A0_9 l0_9.length c0_9) := (blk_cell BK116.out 9).trans rfl
        have hcz17_10 : w3.cell? ⟨gb116, 10, none⟩ = some (.int .i64 a0_10) := (blk_cell BK116.out 10).trans rfl
        have hcz17_11 : w3.cell? ⟨gb116, 11, none⟩ = some (.int .u64 a0_11) := (blk_cell BK116.out 11).trans rfl
        have hcz17_12 : w3.cell? ⟨gb116, 12, none⟩ = some (.int .u64 a0_12) := (blk_cell BK116.out 12).trans rfl
        have hcz17_13 : w3.cell? ⟨gb116, 13, none⟩ = some (.int .u64 a0_13) := (blk_cell BK116.out 13).trans rfl
        have hcz17_14 : w3.cell? ⟨gb116, 14, none⟩ = some (.int .u64 a0_14) := (blk_cell BK116.out 14).trans rfl
        have hfz17_0 := blk_frozen BK116.out 0
        have hfz17_1 := blk_frozen BK116.out 1
        have hfz17_2 := blk_frozen BK116.out 2
        have hfz17_3 := blk_frozen BK116.out 3
        have hfz17_4 := blk_frozen BK116.out 4
        have hfz17_5 := blk_frozen BK116.out 5
        have hfz17_6 := blk_frozen BK116.out 6
        have hfz17_7 := blk_frozen BK116.out 7
        have hfz17_8 := blk_frozen BK116.out 8
        have hfz17_9 := blk_frozen BK116.out 9
        have hfz17_10 := blk_frozen BK116.out 10
        have hfz17_11 := blk_frozen BK116.out 11
        have hfz17_12 := blk_frozen BK116.out 12
        have hfz17_13 := blk_frozen BK116.out 13
        have hfz17_14 := blk_frozen BK116.out 14
        go_wp2_with (first | ((with_reducible refine gate_callee (f := 38) rfl ?_); refine goesL_ (some 7) rfl rfl Try.func38 (by kernel_rfl) rfl #[.int .i64 a0_1, .int .i64 1, .int .i64 7] rfl (by (try simp only [List.map_toArray, List.map_cons, List.map_nil]); first | done | rfl | (simp only [List.length_drop, List.length_take]; rfl)) ?_; (with_reducible refine (impl_in.calls a0_1 1 7 true _ A4.out).mono ?_); rintro e w' ⟨rfl, ⟨nd, rfl⟩⟩; refine ⟨_, rfl, ?_⟩) | (go_at_call 38; (with_reducible refine (impl_in.calls a0_0 1 a0_1 false _ A6.out).mono ?_); rintro e w' ⟨rfl, ⟨nd, rfl⟩⟩))
        go_meet
        case rel => exact ⟨_, (true), (by first | rfl | (simp; done) | (simp [*]; done)), H', ⟨by first | omega | exact Nat.le_refl _⟩, ⟨by (with_reducible repeat (first | refine blk_drewN ?_ _ | refine blk_drew ?_ | refine blk_alloc ?_ _)); exact BK116.out⟩, ⟨by repeat (first | (with_reducible first | exact HB.out | apply below_alloc | apply pw_below_drewN | apply below_drew1 | refine below_set ?_ GE116.out) | exact HB.out)⟩⟩
    · replace c5 := Bool.eq_false_iff.mpr c5
      subst c5
      have H1 : (impl_ClientOk.j0 k true a0_0 a0_1 a0_2 a0_3 a0_4 a0_5 a0_6 a0_7 a0_8 l0_9 a0_10 a0_11 a0_12 a0_13 a0_14) = some r := by rw [if_neg (show ¬ (false = true) by decide)] at H; exact H
      clear H
      have H := H1
      clear H1
      have H' := Aside0.mk H
      clear H
      have hcz18_0 : w3.cell? ⟨gb116, 0, none⟩ = some (.int .i64 a0_0) := (blk_cell BK116.out 0).trans rfl
      have hcz18_1 : w3.cell? ⟨gb116, 1, none⟩ = some (.int .i64 a0_1) := (blk_cell BK116.out 1).trans rfl
      have hcz18_2 : w3.cell? ⟨gb116, 2, none⟩ = some (.int .i64 a0_2) := (blk_cell BK116.out 2).trans rfl
      have hcz18_3 : w3.cell? ⟨gb116, 3, none⟩ = some (.int .i64 a0_3) := (blk_cell BK116.out 3).trans rfl
      have hcz18_4 : w3.cell? ⟨gb116, 4, none⟩ = some (.int .i64 a0_4) := (blk_cell BK116.out 4).trans rfl
      have hcz18_5 : w3.cell? ⟨gb116, 5, none⟩ = some (.int .u64 a0_5) := (blk_cell BK116.out 5).trans rfl
      have hcz18_6 : w3.cell? ⟨gb116, 6, none⟩ = some (.int .u64 a0_6) := (blk_cell BK116.out 6).trans rfl
      have hcz18_7 : w3.cell? ⟨gb116, 7, none⟩ = some (.int .u64 a0_7) := (blk_cell BK116.out 7).trans rfl
      have hcz18_8 : w3.cell? ⟨gb116, 8, none⟩ = some (.int .u64 a0_8) := (blk_cell BK116.out 8).trans rfl
      have hcz18_9 : w3.cell? ⟨gb116, 9, none⟩ = some (.slice A0_9 l0_9.length c0_9) := (blk_cell BK116.out 9).trans rfl
      have hcz18_10 : w3.cell? ⟨gb116, 10, none⟩ = some (.int .i64 a0_10) := (blk_cell BK116.out 10).trans rfl
      have hcz18_11 : w3.cell? ⟨gb116, 11, none⟩ = some (.int .u64 a0_11) := (blk_cell BK116.out 11).trans rfl
      have hcz18_12 : w3.cell? ⟨gb116, 12, none⟩ = some (.int .u64 a0_12) := (blk_cell BK116.out 12).trans rfl
      have hcz18_13 : w3.cell? ⟨gb116, 13, none⟩ = some (.int .u64 a0_13) := (blk_cell BK116.out 13).trans rfl
      have hcz18_14 : w3.cell? ⟨gb116, 14, none⟩ = some (.int .u64 a0_14) := (blk_cell BK116.out 14).trans rfl
      have hfz18_0 := blk_frozen BK116.out 0
      have hfz18_1 := blk_frozen BK116.out 1
      have hfz18_2 := blk_frozen BK116.out 2
      have hfz18_3 := blk_frozen BK116.out 3
      have hfz18_4 := blk_frozen BK116.out 4
      have hfz18_5 := blk_frozen BK116.out 5
      have hfz18_6 := blk_frozen BK116.out 6
      have hfz18_7 := blk_frozen BK116.out 7
      have hfz18_8 := blk_frozen BK116.out 8
      have hfz18_9 := blk_frozen BK116.out 9
      have hfz18_10 := blk_frozen BK116.out 10
      have hfz18_11 := blk_frozen BK116.out 11
      have hfz18_12 := blk_frozen BK116.out 12
      have hfz18_13 := blk_frozen BK116.out 13
      have hfz18_14 := blk_frozen BK116.out 14
      go_wp2_with (first | ((with_reducible refine gate_callee (f := 38) rfl ?_); refine goesL_ (some 7) rfl rfl Try.func38 (by kernel_rfl) rfl #[.int .i64 a0_1, .int .i64 1, .int .i64 7] rfl (by (try simp only [List.map_toArray, List.map_cons, List.map_nil]); first | done | rfl | (simp only [List.length_drop, List.length_take]; rfl)) ?_; (with_reducible refine (impl_in.calls a0_1 1 7 false _ A4.out).mono ?_); rintro e w' ⟨rfl, ⟨nd, rfl⟩⟩; refine ⟨_, rfl, ?_⟩))
      go_meet
      case rel => exact ⟨_, (true), (by first | rfl | (simp; done) | (simp [*]; done)), H', ⟨by first | omega | exact Nat.le_refl _⟩, ⟨by (with_reducible repeat (first | refine blk_drewN ?_ _ | refine blk_drew ?_ | refine blk_alloc ?_ _)); exact BK116.out⟩, ⟨by repeat (first | (with_reducible first | exact HB.out | apply below_alloc | apply pw_below_drewN | apply below_drew1 | refine below_set ?_ GE116.out) | exact HB.out)⟩⟩
  case rest =>
    clear HC2
    try clear c1
    try clear p2
    try clear c3
    try clear c5
    try clear p6
    try clear c7
    try clear c8
    try clear c8b0
    try clear c11
    try clear c12
    try clear c12b0
    try clear hcz14_0
    try clear hcz14_1
    try clear hcz14_10
    try clear hcz14_11
    try clear hcz14_12
    try clear hcz14_13
    try clear hcz14_14
    try clear hcz14_2
    try clear hcz14_3
    try clear hcz14_4
    try clear hcz14_5
    try clear hcz14_6
    try clear hcz14_7
    try clear hcz14_8
    try clear hcz14_9
    try clear hcz15_0
    try clear hcz15_1
    try clear hcz15_10
    try clear hcz15_11
    try clear hcz15_12
    try clear hcz15_13
    try clear hcz15_14
    try clear hcz15_2
    try clear hcz15_3
    try clear hcz15_4
    try clear hcz15_5
    try clear hcz15_6
    try clear hcz15_7
    try clear hcz15_8
    try clear hcz15_9
    try clear hcz16_0
    try clear hcz16_1
    try clear hcz16_10
    try clear hcz16_11
    try clear hcz16_12
    try clear hcz16_13
    try clear hcz16_14
    try clear hcz16_2
    try clear hcz16_3
    try clear hcz16_4
    try clear hcz16_5
    try clear hcz16_6
    try clear hcz16_7
    try clear hcz16_8
    try clear hcz16_9
    try clear hcz17_0
    try clear hcz17_1
    try clear hcz17_10
    try clear hcz17_11
    try clear hcz17_12
    try clear hcz17_13
    try clear hcz17_14
    try clear hcz17_2
    try clear hcz17_3
    try clear hcz17_4
    try clear hcz17_5
    try clear hcz17_6
    try clear hcz17_7
    try clear hcz17_8
    try clear hcz17_9
    try clear hcz18_0
    try clear hcz18_1
    try clear hcz18_10
    try clear hcz18_11
    try clear hcz18_12
    try clear hcz18_13
    try clear hcz18_14
    try clear hcz18_2
    try clear hcz18_3
    try clear hcz18_4
    try clear hcz18_5
    try clear hcz18_6
    try clear hcz18_7
    try clear hcz18_8
    try clear hcz18_9
    try clear hcz9_0
    try clear hcz9_1
    try clear hcz9_10
    try clear hcz9_11
    try clear hcz9_12
    try clear hcz9_13
    try clear hcz9_14
    try clear hcz9_2
    try clear hcz9_3
    try clear hcz9_4
    try clear hcz9_5
    try clear hcz9_6
    try clear hcz9_7
    try clear hcz9_8
    try clear hcz9_9
    try clear hfz14_0
    try clear hfz14_1
    try clear hfz14_10
    try clear hfz14_11
    try clear hfz14_12
    try clear hfz14_13
    try clear hfz14_14
    try clear hfz14_2
    try clear hfz14_3
    try clear hfz14_4
    try clear hfz14_5
    try clear hfz14_6
    try clear hfz14_7
    try clear hfz14_8
    try clear hfz14_9
    try clear hfz15_0
    try clear hfz15_1
    try clear hfz15_10
    try clear hfz15_11
    try clear hfz15_12
    try clear hfz15_13
    try clear hfz15_14
    try clear hfz15_2
    try clear hfz15_3
    try clear hfz15_4
    try clear hfz15_5
    try clear hfz15_6
    try clear hfz15_7
    try clear hfz15_8
    try clear hfz15_9
    try clear hfz16_0
    try clear hfz16_1
    try clear hfz16_10
    try clear hfz16_11
    try clear hfz16_12
    try clear hfz16_13
    try clear hfz16_14
    try clear hfz16_2
    try clear hfz16_3
    try clear hfz16_4
    try clear hfz16_5
    try clear hfz16_6
    try clear hfz16_7
    try clear hfz16_8
    try clear hfz16_9
    try clear hfz17_0
    try clear hfz17_1
    try clear hfz17_10
    try clear hfz17_11
    try clear hfz17_12
    try clear hfz17_13
    try clear hfz17_14
    try clear hfz17_2
    try clear hfz17_3
    try clear hfz17_4
    try clear hfz17_5
    try clear hfz17_6
    try clear hfz17_7
    try clear hfz17_8
    try clear hfz17_9
    try clear hfz18_0
    try clear hfz18_1
    try clear hfz18_10
    try clear hfz18_11
    try clear hfz18_12
    try clear hfz18_13
    try clear hfz18_14
    try clear hfz18_2
    try clear hfz18_3
    try clear hfz18_4
    try clear hfz18_5
    try clear hfz18_6
    try clear hfz18_7
    try clear hfz18_8
    try clear hfz18_9
    try clear hfz9_0
    try clear hfz9_1
    try clear hfz9_10
    try clear hfz9_11
    try clear hfz9_12
    try clear hfz9_13
    try clear hfz9_14
    try clear hfz9_2
    try clear hfz9_3
    try clear hfz9_4
    try clear hfz9_5
    try clear hfz9_6
    try clear hfz9_7
    try clear hfz9_8
    try clear hfz9_9
    obtain ⟨kq, x43_1, rfl, HA, HJ1, BK116, HB⟩ := hcut
    cases kq with
    | zero => exact absurd HA.out (by simp [impl_ClientOk.j0])
    | succ kj1 =>
      have H := HA.out
      clear HA
      simp only [impl_ClientOk.j0] at H
      by_cases c19 : x43_1 = true
      · subst c19
        have H1 : (some false) = some r := by rw [if_pos rfl] at H; exact H
        clear H
        have H := H1
        clear H1
        obtain rfl := Option.some.inj H
        go_wp2
        go_ret
        exact ⟨by first | rfl | (simp [errW_none, errW_some] <;> rfl) | (simp [*, errW_none, errW_some] <;> rfl), by repeat (first | (with_reducible first | exact HB.out | apply below_alloc | apply pw_below_drewN | apply below_drew1 | refine below_set ?_ GE116.out) | exact HB.out)⟩
      · replace c19 := Bool.eq_false_iff.mpr c19
        subst c19
        have H1 : (if a0_3 = 0 then (impl_ClientOk.j1 kj1 a0_3 (a0_3 == 0) a0_0 a0_1 a0_2 a0_3 a0_4 a0_5 a0_6 a0_7 a0_8 l0_9 a0_10 a0_11 a0_12 a0_13 a0_14) else (impl_ClientOk.j1 kj1 a0_3 (a0_3 == 1) a0_0 a0_1 a0_2 a0_3 a0_4 a0_5 a0_6 a0_7 a0_8 l0_9 a0_10 a0_11 a0_12 a0_13 a0_14)) = some r := by rw [if_neg (show ¬ (false = true) by decide)] at H; exact H
        clear H
        have H := H1
        clear H1
        have HC20 := Aside0.mk H
        clear H
        have hcz21_0 : wc.cell? ⟨gb116, 0, none⟩ = some (.int .i64 a0_0) := (blk_cell BK116.out 0).trans rfl
        have hcz21_1 : wc.cell? ⟨gb116, 1, none⟩ = some (.int .i64 a0_1) := (blk_cell BK116.out 1).trans rfl
        have hcz21_2 : wc.cell? ⟨gb116, 2, none⟩ = some (.int .i64 a0_2) := (blk_cell BK116.out 2).trans rfl
        have hcz21_3 : wc.cell? ⟨gb116, 3, none⟩ = some (.int .i64 a0_3) := (blk_cell BK116.out 3).trans rfl
        have hcz21_4 : wc.cell? ⟨gb116, 4, none⟩ = some (.int .i64 a0_4) := (blk_cell BK116.out 4).trans rfl
        have hcz21_5 : wc.cell? ⟨gb116, 5, none⟩ = some (.int .u64 a0_5) := (blk_cell BK116.out 5).trans rfl
        have hcz21_6 : wc.cell? ⟨gb116, 6, none⟩ = some (.int .u64 a0_6) := (blk_cell BK116.out 6).trans rfl
        have hcz21_7 : wc.cell? ⟨gb116, 7, none⟩ = some (.int .u64 a0_7) := (blk_cell BK116.out 7).trans rfl
        have hcz21_8 : wc.cell? ⟨gb116, 8, none⟩ = some (.int .u64 a0_8) := (blk_cell BK116.out 8).trans rfl
        have hcz21_9 : wc.cell? ⟨gb116, 9, none⟩ = some (.slice A0_9 l0_9.length c0_9) := (blk_cell BK116.out 9).trans rfl
        have hcz21_10 : wc.cell? ⟨gb116, 10, none⟩ = some (.int .i64 a0_10) := (blk_cell BK116.out 10).trans rfl
        have hcz21_11 : wc.cell? ⟨gb116, 11, none⟩ = some (.int .u64 a0_11) := (blk_cell BK116.out 11).trans rfl
        have hcz21_12 : wc.cell? ⟨gb116, 12, none⟩ = some (.int .u64 a0_12) := (blk_cell BK116.out 12).trans rfl
        have hcz21_13 : wc.cell? ⟨gb116, 13, none⟩ = some (.int .u64 a0_13) := (blk_cell BK116.out 13).trans rfl
        have hcz21_14 : wc.cell? ⟨gb116, 14, none⟩ = some (.int .u64 a0_14) := (blk_cell BK116.out 14).trans rfl
        have hfz21_0 := blk_frozen BK116.out 0
        have hfz21_1 := blk_frozen BK116.out 1
        have hfz21_2 := blk_frozen BK116.out 2
        have hfz21_3 := blk_frozen BK116.out 3
        have hfz21_4 := blk_frozen BK116.out 4
        have hfz21_5 := blk_frozen BK116.out 5
        have hfz21_6 := blk_frozen BK116.out 6
        have hfz21_7 := blk_frozen BK116.out 7
        have hfz21_8 := blk_frozen BK116.out 8
        have hfz21_9 := blk_frozen BK116.out 9
        have hfz21_10 := blk_frozen BK116.out 10
        have hfz21_11 := blk_frozen BK116.out 11
        have hfz21_12 := blk_frozen BK116.out 12
        have hfz21_13 := blk_frozen BK116.out 13
        have hfz21_14 := blk_frozen BK116.out 14
        go_upto_if 46 with (fail)
        go_cut [46] (fun v46 wc => ∃ (kq : Nat) (x46_19 : Bool), v46 = .bool x46_19 ∧ Aside0 (impl_ClientOk.j1 kq a0_3 x46_19 a0_0 a0_1 a0_2 a0_3 a0_4 a0_5 a0_6 a0_7 a0_8 l0_9 a0_10 a0_11 a0_12 a0_13 a0_14 = some r) ∧ Aside0 (kq ≤ kj1) ∧ Aside0 (wc.heap[gb116]? = some (.cells #[.int .i64 a0_0, .int .i64 a0_1, .int .i64 a0_2, .int .i64 a0_3, .int .i64 a0_4, .int .u64 a0_5, .int .u64 a0_6, .int .u64 a0_7, .int .u64 a0_8, (.slice A0_9 l0_9.length c0_9), .int .i64 a0_10, .int .u64 a0_11, .int .u64 a0_12, .int .u64 a0_13, .int .u64 a0_14] 61 (0, 0))) ∧ Aside0 (Below w.heap.size w wc))
        case first =>
          have H := HC20.out
          clear HC20
          by_cases c22 : a0_3 = 0
          · rw [if_pos c22] at H
            have c22b0 : (a0_3 == 0) = true := beq_iff_eq.mpr c22
            have c22b1 : (a0_3 != 0) = false := bne_eq_false_iff_eq.mpr c22
            clear c22
            (first | rw [c22b0] | (simp only [i64_w, i32_w]; rw [c22b0]) | skip)
            have H' := Aside0.mk H
            clear H
            go_wp2
            go_meet
            case rel => exact ⟨_, ((a0_3 == 0)), (by first | rfl | (simp; done) | (simp [*]; done)), H', ⟨by have := HJ1.out; first | omega | exact Nat.le_refl _⟩, ⟨by (with_reducible repeat (first | refine blk_drewN ?_ _ | refine blk_drew ?_ | refine blk_alloc ?_ _)); exact BK116.out⟩, ⟨by repeat (first | (with_reducible first | exact HB.out | apply below_alloc | apply pw_below_drewN | apply below_drew1 | refine below_set ?_ GE116.out) | exact HB.out)⟩⟩
          · rw [if_neg c22] at H
            have c22b0 : (a0_3 == 0) = false := beq_eq_false_iff_ne.mpr c22
            have c22b1 : (a0_3 != 0) = true := bne_iff_ne.mpr c22
            (first | rw [c22b0] | (simp only [i64_w, i32_w]; rw [c22b0]) | skip)
            have H' := Aside0.mk H
            clear H
            go_wp2
            go_meet
            case rel => exact ⟨_, ((a0_3 == 1)), (by first | rfl | (simp; done) | (simp [*]; done)), H', ⟨by have := HJ1.out; first | omega | exact Nat.le_refl _⟩, ⟨by (with_reducible repeat (first | refine blk_drewN ?_ _ | refine blk_drew ?_ | refine blk_alloc ?_ _)); exact BK116.out⟩, ⟨by repeat (first | (with_reducible first | exact HB.out | apply below_alloc | apply pw_below_drewN | apply below_drew1 | refine below_set ?_ GE116.out) | exact HB.out)⟩⟩
        case rest =>
          clear HC20
          try clear c1
          try clear c2
          try clear p2
          try clear c3
          try clear c5
          try clear p6
          try clear c7
          try clear c8
          try clear c8b0
          try clear c11
          try clear c12
          try clear c12b0
          try clear c19
          try clear c22
          try clear c22b0
          try clear c22b1
          try clear hcz14_0
          try clear hcz14_1
          try clear hcz14_10
          try clear hcz14_11
          try clear hcz14_12
          try clear hcz14_13
          try clear hcz14_14
          try clear hcz14_2
          try clear hcz14_3
          try clear hcz14_4
          try clear hcz14_5
          try clear hcz14_6
          try clear hcz14_7
          try clear hcz14_8
          try clear hcz14_9
          try clear hcz15_0
          try clear hcz15_1
          try clear hcz15_10
          try clear hcz15_11
          try clear hcz15_12
          try clear hcz15_13
          try clear hcz15_14
          try clear hcz15_2
          try clear hcz15_3
          try clear hcz15_4
          try clear hcz15_5
          try clear hcz15_6
          try clear hcz15_7
          try clear hcz15_8
          try clear hcz15_9
          try clear hcz16_0
          try clear hcz16_1
          try clear hcz16_10
          try clear hcz16_11
          try clear hcz16_12
          try clear hcz16_13
          try clear hcz16_14
          try clear hcz16_2
          try clear hcz16_3
          try clear hcz16_4
          try clear hcz16_5
          try clear hcz16_6
          try clear hcz16_7
          try clear hcz16_8
          try clear hcz16_9
          try clear hcz17_0
          try clear hcz17_1
          try clear hcz17_10
          try clear hcz17_11
          try clear hcz17_12
          try clear hcz17_13
          try clear hcz17_14
          try clear hcz17_2
          try clear hcz17_3
          try clear hcz17_4
          try clear hcz17_5
          try clear hcz17_6
          try clear hcz17_7
          try clear hcz17_8
          try clear hcz17_9
          try clear hcz18_0
          try clear hcz18_1
          try clear hcz18_10
          try clear hcz18_11
          try clear hcz18_12
          try clear hcz18_13
          try clear hcz18_14
          try clear hcz18_2
          try clear hcz18_3
          try clear hcz18_4
          try clear hcz18_5
          try clear hcz18_6
          try clear hcz18_7
          try clear hcz18_8
          try clear hcz18_9
          try clear hcz21_0
          try clear hcz21_1
          try clear hcz21_10
          try clear hcz21_11
          try clear hcz21_12
          try clear hcz21_13
          try clear hcz21_14
          try clear hcz21_2
          try clear hcz21_3
          try clear hcz21_4
          try clear hcz21_5
          try clear hcz21_6
          try clear hcz21_7
          try clear hcz21_8
          try clear hcz21_9
          try clear hcz9_0
          try clear hcz9_1
          try clear hcz9_10
          try clear hcz9_11
          try clear hcz9_12
          try clear hcz9_13
          try clear hcz9_14
          try clear hcz9_2
          try clear hcz9_3
          try clear hcz9_4
          try clear hcz9_5
          try clear hcz9_6
          try clear hcz9_7
          try clear hcz9_8
          try clear hcz9_9
          try clear hfz14_0
          try clear hfz14_1
          try clear hfz14_10
          try clear hfz14_11
          try clear hfz14_12
          try clear hfz14_13
          try clear hfz14_14
          try clear hfz14_2
          try clear hfz14_3
          try clear hfz14_4
          try clear hfz14_5
          try clear hfz14_6
          try clear hfz14_7
          try clear hfz14_8
          try clear hfz14_9
          try clear hfz15_0
          try clear hfz15_1
          try clear hfz15_10
          try clear hfz15_11
          try clear hfz15_12
          try clear hfz15_13
          try clear hfz15_14
          try clear hfz15_2
          try clear hfz15_3
          try clear hfz15_4
          try clear hfz15_5
          try clear hfz15_6
          try clear hfz15_7
          try clear hfz15_8
          try clear hfz15_9
          try clear hfz16_0
          try clear hfz16_1
          try clear hfz16_10
          try clear hfz16_11
          try clear hfz16_12
          try clear hfz16_13
          try clear hfz16_14
          try clear hfz16_2
          try clear hfz16_3
          try clear hfz16_4
          try clear hfz16_5
          try clear hfz16_6
          try clear hfz16_7
          try clear hfz16_8
          try clear hfz16_9
          try clear hfz17_0
          try clear hfz17_1
          try clear hfz17_10
          try clear hfz17_11
          try clear hfz17_12
          try clear hfz17_13
          try clear hfz17_14
          try clear hfz17_2
          try clear hfz17_3
          try clear hfz17_4
          try clear hfz17_5
          try clear hfz17_6
          try clear hfz17_7
          try clear hfz17_8
          try clear hfz17_9
          try clear hfz18_0
          try clear hfz18_1
          try clear hfz18_10
          try clear hfz18_11
          try clear hfz18_12
          try clear hfz18_13
          try clear hfz18_14
          try clear hfz18_2
          try clear hfz18_3
          try clear hfz18_4
          try clear hfz18_5
          try clear hfz18_6
          try clear hfz18_7
          try clear hfz18_8
          try clear hfz18_9
          try clear hfz21_0
          try clear hfz21_1
          try clear hfz21_10
          try clear hfz21_11
          try clear hfz21_12
          try clear hfz21_13
          try clear hfz21_14
          try clear hfz21_2
          try clear hfz21_3
          try clear hfz21_4
          try clear hfz21_5
          try clear hfz21_6
          try clear hfz21_7
          try clear hfz21_8
          try clear hfz21_9
          try clear hfz9_0
          try clear hfz9_1
          try clear hfz9_10
          try clear hfz9_11
          try clear hfz9_12
          try clear hfz9_13
          try clear hfz9_14
          try clear hfz9_2
          try clear hfz9_3
          try clear hfz9_4
          try clear hfz9_5
          try clear hfz9_6
          try clear hfz9_7
          try clear hfz9_8
          try clear hfz9_9
          try clear p2
          try clear p6
          obtain ⟨kq, x46_19, rfl, HA, HJ19, BK116, HB⟩ := hcut
          cases kq with
          | zero => exact absurd HA.out (by simp [impl_ClientOk.j1])
          | succ kj19 =>
            have H := HA.out
            clear HA
            simp only [impl_ClientOk.j1] at H
            by_cases c23 : x46_19 = true
            · subst c23
              have H1 : (if (a0_4 == 0 && ((a0_5 == 0 && (a0_6 == 0 && (a0_7 == 0 && (a0_8 == 0)))))) = true then (if (l0_9.length : Int) = 0 then (if a0_3 = 0 then (some true) else (some (a0_2 != 0))) else (some false)) else (some false)) = some r := by rw [if_pos rfl] at H; exact H
              clear H
              have H := H1
              clear H1
              by_cases c24 : (a0_4 == 0 && ((a0_5 == 0 && (a0_6 == 0 && (a0_7 == 0 && (a0_8 == 0)))))) = true
              · rw [if_pos c24] at H
                have c24b0 : (a0_4 == 0 && ((a0_5 == 0 && (a0_6 == 0 && (a0_7 == 0 && (a0_8 == 0)))))) = true := c24
                (try (have c24b1 : decide (a0_4 = 0 && ((a0_5 == 0 && (a0_6 == 0 && (a0_7 == 0 && (a0_8 == 0)))))) = true := by simpa using c24))
                (try (have c24b2 : (a0_4 == 0 && ((a0_5 == 0 && (a0_6 == 0 && (a0_7 == 0 && (a0_8 == 0)))))) = true := by simpa using c24))
                clear c24
                by_cases c25 : (l0_9.length : Int) = 0
                · rw [if_pos c25] at H
                  have c25b0 : ((l0_9.length : Int) == 0) = true := beq_iff_eq.mpr c25
                  have c25b1 : ((l0_9.length : Int) != 0) = false := bne_eq_false_iff_eq.mpr c25
                  clear c25
                  by_cases c26 : a0_3 = 0
                  · rw [if_pos c26] at H
                    have c26b0 : (a0_3 == 0) = true := beq_iff_eq.mpr c26
                    have c26b1 : (a0_3 != 0) = false := bne_eq_false_iff_eq.mpr c26
                    clear c26
                    obtain rfl := Option.some.inj H
                    have hcz27_0 : wc.cell? ⟨gb116, 0, none⟩ = some (.int .i64 a0_0) := (blk_cell BK116.out 0).trans rfl
                    have hcz27_1 : wc.cell? ⟨gb116, 1, none⟩ = some (.int .i64 a0_1) := (blk_cell BK116.out 1).trans rfl
                    have hcz27_2 : wc.cell? ⟨gb116, 2, none⟩ = some (.int .i64 a0_2) := (blk_cell BK116.out 2).trans rfl
                    have hcz27_3 : wc.cell? ⟨gb116, 3, none⟩ = some (.int .i64 a0_3) := (blk_cell BK116.out 3).trans rfl
                    have hcz27_4 : wc.cell? ⟨gb116, 4, none⟩ = some (.int .i64 a0_4) := (blk_cell BK116.out 4).trans rfl
                    have hcz27_5 : wc.cell? ⟨gb116, 5, none⟩ = some (.int .u64 a0_5) := (blk_cell BK116.out 5).trans rfl
                    have hcz27_6 : wc.cell? ⟨gb116, 6, none⟩ = some (.int .u64 a0_6) := (blk_cell BK116.out 6).trans rfl
                    have hcz27_7 : wc.cell? ⟨gb116, 7, none⟩ = some (.int .u64 a0_7) := (blk_cell BK116.out 7).trans rfl
                    have hcz27_8 : wc.cell? ⟨gb116, 8, none⟩ = some (.int .u64 a0_8) := (blk_cell BK116.out 8).trans rfl
                    have hcz27_9 : wc.cell? ⟨gb116, 9, none⟩ = some (.slice A0_9 l0_9.length c0_9) := (blk_cell BK116.out 9).trans rfl
                    have hcz27_10 : wc.cell? ⟨gb116, 10, none⟩ = some (.int .i64 a0_10) := (blk_cell BK116.out 10).trans rfl
                    have hcz27_11 : wc.cell? ⟨gb116, 11, none⟩ = some (.int .u64 a0_11) := (blk_cell BK116.out 11).trans rfl
                    have hcz27_12 : wc.cell? ⟨gb116, 12, none⟩ = some (.int .u64 a0_12) := (blk_cell BK116.out 12).trans rfl
                    have hcz27_13 : wc.cell? ⟨gb116, 13, none⟩ = some (.int .u64 a0_13) := (blk_cell BK116.out 13).trans rfl
                    have hcz27_14 : wc.cell? ⟨gb116, 14, none⟩ = some (.int .u64 a0_14) := (blk_cell BK116.out 14).trans rfl
                    have hfz27_0 := blk_frozen BK116.out 0
                    have hfz27_1 := blk_frozen BK116.out 1
                    have hfz27_2 := blk_frozen BK116.out 2
                    have hfz27_3 := blk_frozen BK116.out 3
                    have hfz27_4 := blk_frozen BK116.out 4
                    have hfz27_5 := blk_frozen BK116.out 5
                    have hfz27_6 := blk_frozen BK116.out 6
                    have hfz27_7 := blk_frozen BK116.out 7
                    have hfz27_8 := blk_frozen BK116.out 8
                    have hfz27_9 := blk_frozen BK116.out 9
                    have hfz27_10 := blk_frozen BK116.out 10
                    have hfz27_11 := blk_frozen BK116.out 11
                    have hfz27_12 := blk_frozen BK116.out 12
                    have hfz27_13 := blk_frozen BK116.out 13
                    have hfz27_14 := blk_frozen BK116.out 14
                    go_wp2
                    go_ret
                    exact ⟨by first | rfl | (simp [errW_none, errW_some] <;> rfl) | (simp [*, errW_none, errW_some] <;> rfl), by repeat (first | (with_reducible first | exact HB.out | apply below_alloc | apply pw_below_drewN | apply below_drew1 | refine below_set ?_ GE116.out) | exact HB.out)⟩
                  · rw [if_neg c26] at H
                    have c26b0 : (a0_3 == 0) = false := beq_eq_false_iff_ne.mpr c26
                    have c26b1 : (a0_3 != 0) = true := bne_iff_ne.mpr c26
                    obtain rfl := Option.some.inj H
                    have hcz28_0 : wc.cell? ⟨gb116, 0, none⟩ = some (.int .i64 a0_0) := (blk_cell BK116.out 0).trans rfl
                    have hcz28_1 : wc.cell? ⟨gb116, 1, none⟩ = some (.int .i64 a0_1) := (blk_cell BK116.out 1).trans rfl
                    have hcz28_2 : wc.cell? ⟨gb116, 2, none⟩ = some (.int .i64 a0_2) := (blk_cell BK116.out 2).trans rfl
                    have hcz28_3 : wc.cell? ⟨gb116, 3, none⟩ = some (.int .i64 a0_3) := (blk_cell BK116.out 3).trans rfl
                    have hcz28_4 : wc.cell? ⟨gb116, 4, none⟩ = some (.int .i64 a0_4) := (blk_cell BK116.out 4).trans rfl
                    have hcz28_5 : wc.cell? ⟨gb116, 5, none⟩ = some (.int .u64 a0_5) := (blk_cell BK116.out 5).trans rfl
                    have hcz28_6 : wc.cell? ⟨gb116, 6, none⟩ = some (.int .u64 a0_6) := (blk_cell BK116.out 6).trans rfl
                    have hcz28_7 : wc.cell? ⟨gb116, 7, none⟩ = some (.int .u64 a0_7) := (blk_cell BK116.out 7).trans rfl
                    have hcz28_8 : wc.cell? ⟨gb116, 8, none⟩ = some (.int .u64 a0_8) := (blk_cell BK116.out 8).trans rfl
                    have hcz28_9 : wc.cell? ⟨gb116, 9, none⟩ = some (.slice A0_9 l0_9.length c0_9) := (blk_cell BK116.out 9).trans rfl
                    have hcz28_10 : wc.cell? ⟨gb116, 10, none⟩ = some (.int .i64 a0_10) := (blk_cell BK116.out 10).trans rfl
                    have hcz28_11 : wc.cell? ⟨gb116, 11, none⟩ = some (.int .u64 a0_11) := (blk_cell BK116.out 11).trans rfl
                    have hcz28_12 : wc.cell? ⟨gb116, 12, none⟩ = some (.int .u64 a0_12) := (blk_cell BK116.out 12).trans rfl
                    have hcz28_13 : wc.cell? ⟨gb116, 13, none⟩ = some (.int .u64 a0_13) := (blk_cell BK116.out 13).trans rfl
                    have hcz28_14 : wc.cell? ⟨gb116, 14, none⟩ = some (.int .u64 a0_14) := (blk_cell BK116.out 14).trans rfl
                    have hfz28_0 := blk_frozen BK116.out 0
                    have hfz28_1 := blk_frozen BK116.out 1
                    have hfz28_2 := blk_frozen BK116.out 2
                    have hfz28_3 := blk_frozen BK116.out 3
                    have hfz28_4 := blk_frozen BK116.out 4
                    have hfz28_5 := blk_frozen BK116.out 5
                    have hfz28_6 := blk_frozen BK116.out 6
                    have hfz28_7 := blk_frozen BK116.out 7
                    have hfz28_8 := blk_frozen BK116.out 8
                    have hfz28_9 := blk_frozen BK116.out 9
                    have hfz28_10 := blk_frozen BK116.out 10
                    have hfz28_11 := blk_frozen BK116.out 11
                    have hfz28_12 := blk_frozen BK116.out 12
                    have hfz28_13 := blk_frozen BK116.out 13
                    have hfz28_14 := blk_frozen BK116.out 14
                    go_wp2
                    go_ret
                    exact ⟨by first | rfl | (simp [errW_none, errW_some] <;> rfl) | (simp [*, errW_none, errW_some] <;> rfl), by repeat (first | (with_reducible first | exact HB.out | apply below_alloc | apply pw_below_drewN | apply below_drew1 | refine below_set ?_ GE116.out) | exact HB.out)⟩
                · rw [if_neg c25] at H
                  have c25b0 : ((l0_9.length : Int) == 0) = false := beq_eq_false_iff_ne.mpr c25
                  have c25b1 : ((l0_9.length : Int) != 0) = true := bne_iff_ne.mpr c25
                  have c25b2 : ¬ (l0_9 = []) := fun h_ => c25 (by rw [h_]; rfl)
                  obtain rfl := Option.some.inj H
                  have hcz29_0 : wc.cell? ⟨gb116, 0, none⟩ = some (.int .i64 a0_0) := (blk_cell BK116.out 0).trans rfl
                  have hcz29_1 : wc.cell? ⟨gb116, 1, none⟩ = some (.int .i64 a0_1) := (blk_cell BK116.out 1).trans rfl
                  have hcz29_2 : wc.cell? ⟨gb116, 2, none⟩ = some (.int .i64 a0_2) := (blk_cell BK116.out 2).trans rfl
                  have hcz29_3 : wc.cell? ⟨gb116, 3, none⟩ = some (.int .i64 a0_3) := (blk_cell BK116.out 3).trans rfl
                  have hcz29_4 : wc.cell? ⟨gb116, 4, none⟩ = some (.int .i64 a0_4) := (blk_cell BK116.out 4).trans rfl
                  have hcz29_5 : wc.cell? ⟨gb116, 5, none⟩ = some (.int .u64 a0_5) := (blk_cell BK116.out 5).trans rfl
                  have hcz29_6 : wc.cell? ⟨gb116, 6, none⟩ = some (.int .u64 a0_6) := (blk_cell BK116.out 6).trans rfl
                  have hcz29_7 : wc.cell? ⟨gb116, 7, none⟩ = some (.int .u64 a0_7) := (blk_cell BK116.out 7).trans rfl
                  have hcz29_8 : wc.cell? ⟨gb116, 8, none⟩ = some (.int .u64 a0_8) := (blk_cell BK116.out 8).trans rfl
                  have hcz29_9 : wc.cell? ⟨gb116, 9, none⟩ = some (.slice A0_9 l0_9.length c0_9) := (blk_cell BK116.out 9).trans rfl
                  have hcz29_10 : wc.cell? ⟨gb116, 10, none⟩ = some (.int .i64 a0_10) := (blk_cell BK116.out 10).trans rfl
                  have hcz29_11 : wc.cell? ⟨gb116, 11, none⟩ = some (.int .u64 a0_11) := (blk_cell BK116.out 11).trans rfl
                  have hcz29_12 : wc.cell? ⟨gb116, 12, none⟩ = some (.int .u64 a0_12) := (blk_cell BK116.out 12).trans rfl
                  have hcz29_13 : wc.cell? ⟨gb116, 13, none⟩ = some (.int .u64 a0_13) := (blk_cell BK116.out 13).trans rfl
                  have hcz29_14 : wc.cell? ⟨gb116, 14, none⟩ = some (.int .u64 a0_14) := (blk_cell BK116.out 14).trans rfl
                  have hfz29_0 := blk_frozen BK116.out 0
                  have hfz29_1 := blk_frozen BK116.out 1
                  have hfz29_2 := blk_frozen BK116.out 2
                  have hfz29_3 := blk_frozen BK116.out 3
                  have hfz29_4 := blk_frozen BK116.out 4
                  have hfz29_5 := blk_frozen BK116.out 5
                  have hfz29_6 := blk_frozen BK116.out 6
                  have hfz29_7 := blk_frozen BK116.out 7
                  have hfz29_8 := blk_frozen BK116.out 8
                  have hfz29_9 := blk_frozen BK116.out 9
                  have hfz29_10 := blk_frozen BK116.out 10
                  have hfz29_11 := blk_frozen BK116.out 11
                  have hfz29_12 := blk_frozen BK116.out 12
                  have hfz29_13 := blk_frozen BK116.out 13
                  have hfz29_14 := blk_frozen BK116.out 14
                  go_wp2
                  go_ret
                  exact ⟨by first | rfl | (simp [errW_none, errW_some] <;> rfl) | (simp [*, errW_none, errW_some] <;> rfl), by repeat (first | (with_reducible first | exact HB.out | apply below_alloc | apply pw_below_drewN | apply below_drew1 | refine below_set ?_ GE116.out) | exact HB.out)⟩
              · rw [if_neg c24] at H
                have c24b0 : (a0_4 == 0 && ((a0_5 == 0 && (a0_6 == 0 && (a0_7 == 0 && (a0_8 == 0)))))) = false := by simpa using c24
                (try (have c24b1 : decide (a0_4 = 0 && ((a0_5 == 0 && (a0_6 == 0 && (a0_7 == 0 && (a0_8 == 0)))))) = false := by simpa using c24))
                (try (have c24b2 : (a0_4 == 0 && ((a0_5 == 0 && (a0_6 == 0 && (a0_7 == 0 && (a0_8 == 0)))))) = false := by simpa using c24))
                (try (have c24b3 : ¬ (a0_4 = 0 && ((a0_5 == 0 && (a0_6 == 0 && (a0_7 == 0 && (a0_8 == 0)))))) := by simpa using c24))
                clear c24
                obtain rfl := Option.some.inj H
                have hcz30_0 : wc.cell? ⟨gb116, 0, none⟩ = some (.int .i64 a0_0) := (blk_cell BK116.out 0).trans rfl
                have hcz30_1 : wc.cell? ⟨gb116, 1, none⟩ = some (.int .i64 a0_1) := (blk_cell BK116.out 1).trans rfl
                have hcz30_2 : wc.cell? ⟨gb116, 2, none⟩ = some (.int .i64 a0_2) := (blk_cell BK116.out 2).trans rfl
                have hcz30_3 : wc.cell? ⟨gb116, 3, none⟩ = some (.int .i64 a0_3) := (blk_cell BK116.out 3).trans rfl
                have hcz30_4 : wc.cell? ⟨gb116, 4, none⟩ = some (.int .i64 a0_4) := (blk_cell BK116.out 4).trans rfl
                have hcz30_5 : wc.cell? ⟨gb116, 5, none⟩ = some (.int .u64 a0_5) := (blk_cell BK116.out 5).trans rfl
                have hcz30_6 : wc.cell? ⟨gb116, 6, none⟩ = some (.int .u64 a0_6) := (blk_cell BK116.out 6).trans rfl
                have hcz30_7 : wc.cell? ⟨gb116, 7, none⟩ = some (.int .u64 a0_7) := (blk_cell BK116.out 7).trans rfl
                have hcz30_8 : wc.cell? ⟨gb116, 8, none⟩ = some (.int .u64 a0_8) := (blk_cell BK116.out 8).trans rfl
                have hcz30_9 : wc.cell? ⟨gb116, 9, none⟩ = some (.slice A0_9 l0_9.length c0_9) := (blk_cell BK116.out 9).trans rfl
                have hcz30_10 : wc.cell? ⟨gb116, 10, none⟩ = some (.int .i64 a0_10) := (blk_cell BK116.out 10).trans rfl
                have hcz30_11 : wc.cell? ⟨gb116, 11, none⟩ = some (.int .u64 a0_11) := (blk_cell BK116.out 11).trans rfl
                have hcz30_12 : wc.cell? ⟨gb116, 12, none⟩ = some (.int .u64 a0_12) := (blk_cell BK116.out 12).trans rfl
                have hcz30_13 : wc.cell? ⟨gb116, 13, none⟩ = some (.int .u64 a0_13) := (blk_cell BK116.out 13).trans rfl
                have hcz30_14 : wc.cell? ⟨gb116, 14, none⟩ = some (.int .u64 a0_14) := (blk_cell BK116.out 14).trans rfl
                have hfz30_0 := blk_frozen BK116.out 0
                have hfz30_1 := blk_frozen BK116.out 1
                have hfz30_2 := blk_frozen BK116.out 2
                have hfz30_3 := blk_frozen BK116.out 3
                have hfz30_4 := blk_frozen BK116.out 4
                have hfz30_5 := blk_frozen BK116.out 5
                have hfz30_6 := blk_frozen BK116.out 6
                have hfz30_7 := blk_frozen BK116.out 7
                have hfz30_8 := blk_frozen BK116.out 8
                have hfz30_9 := blk_frozen BK116.out 9
                have hfz30_10 := blk_frozen BK116.out 10
                have hfz30_11 := blk_frozen BK116.out 11
                have hfz30_12 := blk_frozen BK116.out 12
                have hfz30_13 := blk_frozen BK116.out 13
                have hfz30_14 := blk_frozen BK116.out 14
                go_wp2
                go_ret
                exact ⟨by first | rfl | (simp [errW_none, errW_some] <;> rfl) | (simp [*, errW_none, errW_some] <;> rfl), by repeat (first | (with_reducible first | exact HB.out | apply below_alloc | apply pw_below_drewN | apply below_drew1 | refine below_set ?_ GE116.out) | exact HB.out)⟩
            · replace c23 := Bool.eq_false_iff.mpr c23
              subst c23
              have H1 : (if a0_3 = 2 then (impl_ClientOk.l0 kj19 l0_9 (l0_9.length : Int) 0 a0_0 a0_1 a0_2 a0_3 a0_4 a0_5 a0_6 a0_7 a0_8 l0_9 a0_10 a0_11 a0_12 a0_13 a0_14) else (some false)) = some r := by rw [if_neg (show ¬ (false = true) by decide)] at H; exact H
              clear H
              have H := H1
              clear H1
              by_cases c31 : a0_3 = 2
              · rw [if_pos c31] at H
                have c31b0 : (a0_3 == 2) = true := beq_iff_eq.mpr c31
                have c31b1 : (a0_3 != 2) = false := bne_eq_false_iff_eq.mpr c31
                clear c31
                have H' := Aside0.mk H
                clear H
                have hcz32_0 : wc.cell? ⟨gb116, 0, none⟩ = some (.int .i64 a0_0) := (blk_cell BK116.out 0).trans rfl
                have hcz32_1 : wc.cell? ⟨gb116, 1, none⟩ = some (.int .i64 a0_1) := (blk_cell BK116.out 1).trans rfl
                have hcz32_2 : wc.cell? ⟨gb116, 2, none⟩ = some (.int .i64 a0_2) := (blk_cell BK116.out 2).trans rfl
                have hcz32_3 : wc.cell? ⟨gb116, 3, none⟩ = some (.int .i64 a0_3) := (blk_cell BK116.out 3).trans rfl
                have hcz32_4 : wc.cell? ⟨gb116, 4, none⟩ = some (.int .i64 a0_4) := (blk_cell BK116.out 4).trans rfl
                have hcz32_5 : wc.cell? ⟨gb116, 5, none⟩ = some (.int .u64 a0_5) := (blk_cell BK116.out 5).trans rfl
                have hcz32_6 : wc.cell? ⟨gb116, 6, none⟩ = some (.int .u64 a0_6) := (blk_cell BK116.out 6).trans rfl
                have hcz32_7 : wc.cell? ⟨gb116, 7, none⟩ = some (.int .u64 a0_7) := (blk_cell BK116.out 7).trans rfl
                have hcz32_8 : wc.cell? ⟨gb116, 8, none⟩ = some (.int .u64 a0_8) := (blk_cell BK116.out 8).trans rfl
                have hcz32_9 : wc.cell? ⟨gb116, 9, none⟩ = some (.slice A0_9 l0_9.length c0_9) := (blk_cell BK116.out 9).trans rfl
                have hcz32_10 : wc.cell? ⟨gb116, 10, none⟩ = some (.int .i64 a0_10) := (blk_cell BK116.out 10).trans rfl
                have hcz32_11 : wc.cell? ⟨gb116, 11, none⟩ = some (.int .u64 a0_11) := (blk_cell BK116.out 11).trans rfl
                have hcz32_12 : wc.cell? ⟨gb116, 12, none⟩ = some (.int .u64 a0_12) := (blk_cell BK116.out 12).trans rfl
                have hcz32_13 : wc.cell? ⟨gb116, 13, none⟩ = some (.int .u64 a0_13) := (blk_cell BK116.out 13).trans rfl
                have hcz32_14 : wc.cell? ⟨gb116, 14, none⟩ = some (.int .u64 a0_14) := (blk_cell BK116.out 14).trans rfl
                have hfz32_0 := blk_frozen BK116.out 0
                have hfz32_1 := blk_frozen BK116.out 1
                have hfz32_2 := blk_frozen BK116.out 2
                have hfz32_3 := blk_frozen BK116.out 3
                have hfz32_4 := blk_frozen BK116.out 4
                have hfz32_5 := blk_frozen BK116.out 5
                have hfz32_6 := blk_frozen BK116.out 6
                have hfz32_7 := blk_frozen BK116.out 7
                have hfz32_8 := blk_frozen BK116.out 8
                have hfz32_9 := blk_frozen BK116.out 9
                have hfz32_10 := blk_frozen BK116.out 10
                have hfz32_11 := blk_frozen BK116.out 11
                have hfz32_12 := blk_frozen BK116.out 12
                have hfz32_13 := blk_frozen BK116.out 13
                have hfz32_14 := blk_frozen BK116.out 14
                go_wp2
                go_loopg [74] kj19 (fun kq v74 w' => ∃ (x74_3 : Int), v74 = .int .i64 x74_3 ∧ Aside0 (impl_ClientOk.l0 kq l0_9 (l0_9.length : Int) x74_3 a0_0 a0_1 a0_2 a0_3 a0_4 a0_5 a0_6 a0_7 a0_8 l0_9 a0_10 a0_11 a0_12 a0_13 a0_14 = some r) ∧ Aside0 (kq ≤ kj19) ∧ Aside0 (w'.heap[gb116]? = some (.cells #[.int .i64 a0_0, .int .i64 a0_1, .int .i64 a0_2, .int .i64 a0_3, .int .i64 a0_4, .int .u64 a0_5, .int .u64 a0_6, .int .u64 a0_7, .int .u64 a0_8, (.slice A0_9 l0_9.length c0_9), .int .i64 a0_10, .int .u64 a0_11, .int .u64 a0_12, .int .u64 a0_13, .int .u64 a0_14] 61 (0, 0))) ∧ Aside0 (Below w.heap.size w w'))
                case atStart => exact ⟨(0), (by first | rfl | (simp; done) | (simp [*]; done)), H', ⟨Nat.le_refl _⟩, ⟨by (with_reducible repeat (first | refine blk_drewN ?_ _ | refine blk_drew ?_ | refine blk_alloc ?_ _)); exact BK116.out⟩, ⟨by repeat (first | (with_reducible first | exact HB.out | apply below_alloc | apply pw_below_drewN | apply below_drew1 | refine below_set ?_ GE116.out) | exact HB.out)⟩⟩
                case round =>
                  clear H'
                  try clear c1
                  try clear c2
                  try clear p2
                  try clear c3
                  try clear c5
                  try clear p6
                  try clear c7
                  try clear c8
                  try clear c8b0
                  try clear c11
                  try clear c12
                  try clear c12b0
                  try clear c19
                  try clear c22
                  try clear c22b0
                  try clear c22b1
                  try clear c23
                  try clear c24
                  try clear c24b0
                  try clear c24b1
                  try clear c24b2
                  try clear c25
                  try clear c25b0
                  try clear c25b1
                  try clear c25b2
                  try clear c26
                  try clear c26b0
                  try clear c26b1
                  try clear c31
                  try clear c31b0
                  try clear c31b1
                  try clear hcz14_0
                  try clear hcz14_1
                  try clear hcz14_10
                  try clear hcz14_11
                  try clear hcz14_12
                  try clear hcz14_13
                  try clear hcz14_14
                  try clear hcz14_2
                  try clear hcz14_3
                  try clear hcz14_4
                  try clear hcz14_5
                  try clear hcz14_6
                  try clear hcz14_7
                  try clear hcz14_8
                  try clear hcz14_9
                  try clear hcz15_0
                  try clear hcz15_1
                  try clear hcz15_10
                  try clear hcz15_11
                  try clear hcz15_12
                  try clear hcz15_13
                  try clear hcz15_14
                  try clear hcz15_2
                  try clear hcz15_3
                  try clear hcz15_4
                  try clear hcz15_5
                  try clear hcz15_6
                  try clear hcz15_7
                  try clear hcz15_8
                  try clear hcz15_9
                  try clear hcz16_0
                  try clear hcz16_1
                  try clear hcz16_10
                  try clear hcz16_11
                  try clear hcz16_12
                  try clear hcz16_13
                  try clear hcz16_14
                  try clear hcz16_2
                  try clear hcz16_3
                  try clear hcz16_4
                  try clear hcz16_5
                  try clear hcz16_6
                  try clear hcz16_7
                  try clear hcz16_8
                  try clear hcz16_9
                  try clear hcz17_0
                  try clear hcz17_1
                  try clear hcz17_10
                  try clear hcz17_11
                  try clear hcz17_12
                  try clear hcz17_13
                  try clear hcz17_14
                  try clear hcz17_2
                  try clear hcz17_3
                  try clear hcz17_4
                  try clear hcz17_5
                  try clear hcz17_6
                  try clear hcz17_7
                  try clear hcz17_8
                  try clear hcz17_9
                  try clear hcz18_0
                  try clear hcz18_1
                  try clear hcz18_10
                  try clear hcz18_11
                  try clear hcz18_12
                  try clear hcz18_13
                  try clear hcz18_14
                  try clear hcz18_2
                  try clear hcz18_3
                  try clear hcz18_4
                  try clear hcz18_5
                  try clear hcz18_6
                  try clear hcz18_7
                  try clear hcz18_8
                  try clear hcz18_9
                  try clear hcz21_0
                  try clear hcz21_1
                  try clear hcz21_10
                  try clear hcz21_11
                  try clear hcz21_12
                  try clear hcz21_13
                  try clear hcz21_14
                  try clear hcz21_2
                  try clear hcz21_3
                  try clear hcz21_4
                  try clear hcz21_5
                  try clear hcz21_6
                  try clear hcz21_7
                  try clear hcz21_8
                  try clear hcz21_9
                  try clear hcz27_0
                  try clear hcz27_1
                  try clear hcz27_10
                  try clear hcz27_11
                  try clear hcz27_12
                  try clear hcz27_13
                  try clear hcz27_14
                  try clear hcz27_2
                  try clear hcz27_3
                  try clear hcz27_4
                  try clear hcz27_5
                  try clear hcz27_6
                  try clear hcz27_7
                  try clear hcz27_8
                  try clear hcz27_9
                  try clear hcz28_0
                  try clear hcz28_1
                  try clear hcz28_10
                  try clear hcz28_11
                  try clear hcz28_12
                  try clear hcz28_13
                  try clear hcz28_14
                  try clear hcz28_2
                  try clear hcz28_3
                  try clear hcz28_4
                  try clear hcz28_5
                  try clear hcz28_6
                  try clear hcz28_7
                  try clear hcz28_8
                  try clear hcz28_9
                  try clear hcz29_0
                  try clear hcz29_1
                  try clear hcz29_10
                  try clear hcz29_11
                  try clear hcz29_12
                  try clear hcz29_13
                  try clear hcz29_14
                  try clear hcz29_2
                  try clear hcz29_3
                  try clear hcz29_4
                  try clear hcz29_5
                  try clear hcz29_6
                  try clear hcz29_7
                  try clear hcz29_8
                  try clear hcz29_9
                  try clear hcz30_0
                  try clear hcz30_1
                  try clear hcz30_10
                  try clear hcz30_11
                  try clear hcz30_12
                  try clear hcz30_13
                  try clear hcz30_14
                  try clear hcz30_2
                  try clear hcz30_3
                  try clear hcz30_4
                  try clear hcz30_5
                  try clear hcz30_6
                  try clear hcz30_7
                  try clear hcz30_8
                  try clear hcz30_9
                  try clear hcz32_0
                  try clear hcz32_1
                  try clear hcz32_10
                  try clear hcz32_11
                  try clear hcz32_12
                  try clear hcz32_13
                  try clear hcz32_14
                  try clear hcz32_2
                  try clear hcz32_3
                  try clear hcz32_4
                  try clear hcz32_5
                  try clear hcz32_6
                  try clear hcz32_7
                  try clear hcz32_8
                  try clear hcz32_9
                  try clear hcz9_0
                  try clear hcz9_1
                  try clear hcz9_10
                  try clear hcz9_11
                  try clear hcz9_12
                  try clear hcz9_13
                  try clear hcz9_14
                  try clear hcz9_2
                  try clear hcz9_3
                  try clear hcz9_4
                  try clear hcz9_5
                  try clear hcz9_6
                  try clear hcz9_7
                  try clear hcz9_8
                  try clear hcz9_9
                  try clear hfz14_0
                  try clear hfz14_1
                  try clear hfz14_10
                  try clear hfz14_11
                  try clear hfz14_12
                  try clear hfz14_13
                  try clear hfz14_14
                  try clear hfz14_2
                  try clear hfz14_3
                  try clear hfz14_4
                  try clear hfz14_5
                  try clear hfz14_6
                  try clear hfz14_7
                  try clear hfz14_8
                  try clear hfz14_9
                  try clear hfz15_0
                  try clear hfz15_1
                  try clear hfz15_10
                  try clear hfz15_11
                  try clear hfz15_12
                  try clear hfz15_13
                  try clear hfz15_14
                  try clear hfz15_2
                  try clear hfz15_3
                  try clear hfz15_4
                  try clear hfz15_5
                  try clear hfz15_6
                  try clear hfz15_7
                  try clear hfz15_8
                  try clear hfz15_9
                  try clear hfz16_0
                  try clear hfz16_1
                  try clear hfz16_10
                  try clear hfz16_11
                  try clear hfz16_12
                  try clear hfz16_13
                  try clear hfz16_14
                  try clear hfz16_2
                  try clear hfz16_3
                  try clear hfz16_4
                  try clear hfz16_5
                  try clear hfz16_6
                  try clear hfz16_7
                  try clear hfz16_8
                  try clear hfz16_9
                  try clear hfz17_0
                  try clear hfz17_1
                  try clear hfz17_10
                  try clear hfz17_11
                  try clear hfz17_12
                  try clear hfz17_13
                  try clear hfz17_14
                  try clear hfz17_2
                  try clear hfz17_3
                  try clear hfz17_4
                  try clear hfz17_5
                  try clear hfz17_6
                  try clear hfz17_7
                  try clear hfz17_8
                  try clear hfz17_9
                  try clear hfz18_0
                  try clear hfz18_1
                  try clear hfz18_10
                  try clear hfz18_11
                  try clear hfz18_12
                  try clear hfz18_13
                  try clear hfz18_14
                  try clear hfz18_2
                  try clear hfz18_3
                  try clear hfz18_4
                  try clear hfz18_5
                  try clear hfz18_6
                  try clear hfz18_7
                  try clear hfz18_8
                  try clear hfz18_9
                  try clear hfz21_0
                  try clear hfz21_1
                  try clear hfz21_10
                  try clear hfz21_11
                  try clear hfz21_12
                  try clear hfz21_13
                  try clear hfz21_14
                  try clear hfz21_2
                  try clear hfz21_3
                  try clear hfz21_4
                  try clear hfz21_5
                  try clear hfz21_6
                  try clear hfz21_7
                  try clear hfz21_8
                  try clear hfz21_9
                  try clear hfz27_0
                  try clear hfz27_1
                  try clear hfz27_10
                  try clear hfz27_11
                  try clear hfz27_12
                  try clear hfz27_13
                  try clear hfz27_14
                  try clear hfz27_2
                  try clear hfz27_3
                  try clear hfz27_4
                  try clear hfz27_5
                  try clear hfz27_6
                  try clear hfz27_7
                  try clear hfz27_8
                  try clear hfz27_9
                  try clear hfz28_0
                  try clear hfz28_1
                  try clear hfz28_10
                  try clear hfz28_11
                  try clear hfz28_12
                  try clear hfz28_13
                  try clear hfz28_14
                  try clear hfz28_2
                  try clear hfz28_3
                  try clear hfz28_4
                  try clear hfz28_5
                  try clear hfz28_6
                  try clear hfz28_7
                  try clear hfz28_8
                  try clear hfz28_9
                  try clear hfz29_0
                  try clear hfz29_1
                  try clear hfz29_10
                  try clear hfz29_11
                  try clear hfz29_12
                  try clear hfz29_13
                  try clear hfz29_14
                  try clear hfz29_2
                  try clear hfz29_3
                  try clear hfz29_4
                  try clear hfz29_5
                  try clear hfz29_6
                  try clear hfz29_7
                  try clear hfz29_8
                  try clear hfz29_9
                  try clear hfz30_0
                  try clear hfz30_1
                  try clear hfz30_10
                  try clear hfz30_11
                  try clear hfz30_12
                  try clear hfz30_13
                  try clear hfz30_14
                  try clear hfz30_2
                  try clear hfz30_3
                  try clear hfz30_4
                  try clear hfz30_5
                  try clear hfz30_6
                  try clear hfz30_7
                  try clear hfz30_8
                  try clear hfz30_9
                  try clear hfz32_0
                  try clear hfz32_1
                  try clear hfz32_10
                  try clear hfz32_11
                  try clear hfz32_12
                  try clear hfz32_13
                  try clear hfz32_14
                  try clear hfz32_2
                  try clear hfz32_3
                  try clear hfz32_4
                  try clear hfz32_5
                  try clear hfz32_6
                  try clear hfz32_7
                  try clear hfz32_8
                  try clear hfz32_9
                  try clear hfz9_0
                  try clear hfz9_1
                  try clear hfz9_10
                  try clear hfz9_11
                  try clear hfz9_12
                  try clear hfz9_13
                  try clear hfz9_14
                  try clear hfz9_2
                  try clear hfz9_3
                  try clear hfz9_4
                  try clear hfz9_5
                  try clear hfz9_6
                  try clear hfz9_7
                  try clear hfz9_8
                  try clear hfz9_9
                  try clear p2
                  try clear p6
                  obtain ⟨x74_3, rfl, HA, HK3, BK116, HB⟩ := hrel
                  cases gk with
                  | zero => exact absurd HA.out (by simp [impl_ClientOk.l0])
                  | succ k3 =>
                    have H := HA.out
                    clear HA
                    simp only [impl_ClientOk.l0] at H
                    by_cases c33 : x74_3 < (l0_9.length : Int)
                    · rw [if_pos c33] at H
                      have c33b0 : decide (x74_3 < (l0_9.length : Int)) = true := decide_eq_true c33
                      clear c33
                      by_cases c34 : 0 ≤ x74_3
                      · rw [if_pos c34] at H
                        have c34b0 : decide (0 ≤ x74_3) = true := decide_eq_true c34
                        clear c34
                        by_cases c35 : x74_3 < (l0_9.length : Int)
                        · rw [if_pos c35] at H
                          have c35b0 : decide (x74_3 < (l0_9.length : Int)) = true := decide_eq_true c35
                          clear c35
                          replace H := Option.bind_eq_some_iff.mp H
                          obtain ⟨t122, A360, H⟩ := H
                          replace H : (if t122 = true then (if x74_3 > 0 then (if 0 ≤ (wrap64 (x74_3 - 1)) then (if (wrap64 (x74_3 - 1)) < (l0_9.length : Int) then (if (rd l0_9 (wrap64 (x74_3 - 1))) ≥ (rd l0_9 x74_3) then (some false) else (impl_ClientOk.l0 k3 l0_9 (l0_9.length : Int) (wrap64 (x74_3 + 1)) a0_0 a0_1 a0_2 a0_3 a0_4 a0_5 a0_6 a0_7 a0_8 l0_9 a0_10 a0_11 a0_12 a0_13 a0_14)) else (none)) else (none)) else (impl_ClientOk.l0 k3 l0_9 (l0_9.length : Int) (wrap64 (x74_3 + 1)) a0_0 a0_1 a0_2 a0_3 a0_4 a0_5 a0_6 a0_7 a0_8 l0_9 a0_10 a0_11 a0_12 a0_13 a0_14)) else (some false)) = some r := H
                          have A36 := Aside0.mk A360
                          clear A360
                          by_cases c37 : t122 = true
                          · subst c37
                            have H1 : (if x74_3 > 0 then (if 0 ≤ (wrap64 (x74_3 - 1)) then (if (wrap64 (x74_3 - 1)) < (l0_9.length : Int) then (if (rd l0_9 (wrap64 (x74_3 - 1))) ≥ (rd l0_9 x74_3) then (some false) else (impl_ClientOk.l0 k3 l0_9 (l0_9.length : Int) (wrap64 (x74_3 + 1)) a0_0 a0_1 a0_2 a0_3 a0_4 a0_5 a0_6 a0_7 a0_8 l0_9 a0_10 a0_11 a0_12 a0_13 a0_14)) else (none)) else (none)) else (impl_ClientOk.l0 k3 l0_9 (l0_9.length : Int) (wrap64 (x74_3 + 1)) a0_0 a0_1 a0_2 a0_3 a0_4 a0_5 a0_6 a0_7 a0_8 l0_9 a0_10 a0_11 a0_12 a0_13 a0_14)) = some r := by rw [if_pos rfl] at H; exact H
                            clear H
                            have H := H1
                            clear H1
                            by_cases c38 : x74_3 > 0
                            · rw [if_pos c38] at H
                              have c38b0 : decide (0 < x74_3) = true := decide_eq_true c38
                              clear c38
                              obtain ⟨ji39, hji39⟩ : ∃ j_ : Int, (wrap64 (x74_3 - 1)) = j_ := ⟨_, rfl⟩
                              replace H : (if 0 ≤ (ji39) then (if (ji39) < (l0_9.length : Int) then (if (rd l0_9 (ji39)) ≥ (rd l0_9 x74_3) then (some false) else (impl_ClientOk.l0 k3 l0_9 (l0_9.length : Int) (wrap64 (x74_3 + 1)) a0_0 a0_1 a0_2 a0_3 a0_4 a0_5 a0_6 a0_7 a0_8 l0_9 a0_10 a0_11 a0_12 a0_13 a0_14)) else (none)) else (none)) = some r := by first | (rw [hji39] at H; exact H) | (simp only [hji39] at H ⊢; exact H)
                              (try rw [hji39] at A36)
                              have hji39w : (IntKind.i64.wrap (x74_3 - 1)) = ji39 := (i64_w _).trans hji39
                              by_cases c40 : 0 ≤ (ji39)
                              · rw [if_pos c40] at H
                                have c40b0 : decide (0 ≤ (ji39)) = true := decide_eq_true c40
                                clear c40
                                by_cases c41 : (ji39) < (l0_9.length : Int)
                                · rw [if_pos c41] at H
                                  have c41b0 : decide ((ji39) < (l0_9.length : Int)) = true := decide_eq_true c41
                                  clear c41
                                  by_cases c42 : (rd l0_9 (ji39)) ≥ (rd l0_9 x74_3)
                                  · rw [if_pos c42] at H
                                    have c42b0 : decide ((rd l0_9 x74_3) ≤ (rd l0_9 (ji39))) = true := decide_eq_true c42
                                    clear c42
                                    obtain rfl := Option.some.inj H
                                    have p121 : 0 ≤ (x74_3 : Int) := of_decide_eq_true (by first | (with_reducible assumption) | assumption)
                                    have q121 : x74_3 < (l0_9.length : Int) := of_decide_eq_true (by first | (with_reducible assumption) | assumption)
                                    obtain ⟨ad121, e121, hx121_0⟩ := Kd.at_int HR0_9.out x74_3 p121 q121
                                    cases e121
                                    replace hx121_0 := (HB.out.cell (World.block_lt_of_cell? w _ hx121_0)).trans hx121_0
                                    replace p121 := eq_true p121
                                    replace q121 := eq_true q121
                                    have hcz43_0 : wr.cell? ⟨gb116, 0, none⟩ = some (.int .i64 a0_0) := (blk_cell BK116.out 0).trans rfl
                                    have hcz43_1 : wr.cell? ⟨gb116, 1, none⟩ = some (.int .i64 a0_1) := (blk_cell BK116.out 1).trans rfl
                                    have hcz43_2 : wr.cell? ⟨gb116, 2, none⟩ = some (.int .i64 a0_2) := (blk_cell BK116.out 2).trans rfl
                                    have hcz43_3 : wr.cell? ⟨gb116, 3, none⟩ = some (.int .i64 a0_3) := (blk_cell BK116.out 3).trans rfl
                                    have hcz43_4 : wr.cell? ⟨gb116, 4, none⟩ = some (.int .i64 a0_4) := (blk_cell BK116.out 4).trans rfl
                                    have hcz43_5 : wr.cell? ⟨gb116, 5, none⟩ = some (.int .u64 a0_5) := (blk_cell BK116.out 5).trans rfl
                                    have hcz43_6 : wr.cell? ⟨gb116, 6, none⟩ = some (.int .u64 a0_6) := (blk_cell BK116.out 6).trans rfl
                                    have hcz43_7 : wr.cell? ⟨gb116, 7, none⟩ = some (.int .u64 a0_7) := (blk_cell BK116.out 7).trans rfl
                                    have hcz43_8 : wr.cell? ⟨gb116, 8, none⟩ = some (.int .u64 a0_8) := (blk_cell BK116.out 8).trans rfl
                                    have hcz43_9 : wr.cell? ⟨gb116, 9, none⟩ = some (.slice (some ad121) l0_9.length c0_9) := (blk_cell BK116.out 9).trans rfl
                                    have hcz43_10 : wr.cell? ⟨gb116, 10, none⟩ = some (.int .i64 a0_10) := (blk_cell BK116.out 10).trans rfl
                                    have hcz43_11 : wr.cell? ⟨gb116, 11, none⟩ = some (.int .u64 a0_11) := (blk_cell BK116.out 11).trans rfl
                                    have hcz43_12 : wr.cell? ⟨gb116, 12, none⟩ = some (.int .u64 a0_12) := (blk_cell BK116.out 12).trans rfl
                                    have hcz43_13 : wr.cell? ⟨gb116, 13, none⟩ = some (.int .u64 a0_13) := (blk_cell BK116.out 13).trans rfl
                                    have hcz43_14 : wr.cell? ⟨gb116, 14, none⟩ = some (.int .u64 a0_14) := (blk_cell BK116.out 14).trans rfl
                                    have hfz43_0 := blk_frozen BK116.out 0
                                    have hfz43_1 := blk_frozen BK116.out 1
                                    have hfz43_2 := blk_frozen BK116.out 2
                                    have hfz43_3 := blk_frozen BK116.out 3
                                    have hfz43_4 := blk_frozen BK116.out 4
                                    have hfz43_5 := blk_frozen BK116.out 5
                                    have hfz43_6 := blk_frozen BK116.out 6
                                    have hfz43_7 := blk_frozen BK116.out 7
                                    have hfz43_8 := blk_frozen BK116.out 8
                                    have hfz43_9 := blk_frozen BK116.out 9
                                    have hfz43_10 := blk_frozen BK116.out 10
                                    have hfz43_11 := blk_frozen BK116.out 11
                                    have hfz43_12 := blk_frozen BK116.out 12
                                    have hfz43_13 := blk_frozen BK116.out 13
                                    have hfz43_14 := blk_frozen BK116.out 14
                                    go_wp2_with (first | ((with_reducible refine gate_callee (f := 38) rfl ?_); refine goesL_ (some 82) rfl rfl Try.func38 (by kernel_rfl) rfl #[.int .i64 (rd l0_9 x74_3), .int .i64 1, .int .i64 a0_1] rfl (by (try simp only [List.map_toArray, List.map_cons, List.map_nil]); first | done | rfl | (simp only [List.length_drop, List.length_take]; rfl)) ?_; (with_reducible refine (impl_in.calls (rd l0_9 x74_3) 1 a0_1 true _ A36.out).mono ?_); rintro e w' ⟨rfl, ⟨nd, rfl⟩⟩; refine ⟨_, rfl, ?_⟩; have p123 : 0 ≤ ((ji39) : Int) := of_decide_eq_true (by first | (with_reducible assumption) | assumption); have q123 : (ji39) < (l0_9.length : Int) := of_decide_eq_true (by first | (with_reducible assumption) | assumption); obtain ⟨ad123, e123, hx123_0⟩ := Kd.at_int HR0_9.out (ji39) p123 q123; obtain rfl : ad121 = ad123 := (by injection e123); replace hx123_0 := (HB.out.cell (World.block_lt_of_cell? w _ hx123_0)).trans hx123_0; replace p123 := eq_true p123; replace q123 := eq_true q123))
                                    go_ret
                                    exact ⟨by first | rfl | (simp [errW_none, errW_some] <;> rfl) | (simp only [← hji39]; first | rfl | (simp [errW_none, errW_some] <;> rfl)) | (simp [*, errW_none, errW_some] <;> rfl), by repeat (first | (with_reducible first | exact HB.out | apply below_alloc | apply pw_below_drewN | apply below_drew1 | refine below_set ?_ GE116.out) | exact HB.out)⟩
                                  · rw [if_neg c42] at H
                                    have c42b0 : decide ((rd l0_9 x74_3) ≤ (rd l0_9 (ji39))) = false := decide_eq_false c42
                                    clear c42
                                    have H' := Aside0.mk H
                                    clear H
                                    have p121 : 0 ≤ (x74_3 : Int) := of_decide_eq_true (by first | (with_reducible assumption) | assumption)
                                    have q121 : x74_3 < (l0_9.length : Int) := of_decide_eq_true (by first | (with_reducible assumption) | assumption)
                                    obtain ⟨ad121, e121, hx121_0⟩ := Kd.at_int HR0_9.out x74_3 p121 q121
                                    cases e121
                                    replace hx121_0 := (HB.out.cell (World.block_lt_of_cell? w _ hx121_0)).trans hx121_0
                                    replace p121 := eq_true p121
                                    replace q121 := eq_true q121
                                    have hcz44_0 : wr.cell? ⟨gb116, 0, none⟩ = some (.int .i64 a0_0) := (blk_cell BK116.out 0).trans rfl
                                    have hcz44_1 : wr.cell? ⟨gb116, 1, none⟩ = some (.int .i64 a0_1) := (blk_cell BK116.out 1).trans rfl
                                    have hcz44_2 : wr.cell? ⟨gb116, 2, none⟩ = some (.int .i64 a0_2) := (blk_cell BK116.out 2).trans rfl
                                    have hcz44_3 : wr.cell? ⟨gb116, 3, none⟩ = some (.int .i64 a0_3) := (blk_cell BK116.out 3).trans rfl
                                    have hcz44_4 : wr.cell? ⟨gb116, 4, none⟩ = some (.int .i64 a0_4) := (blk_cell BK116.out 4).trans rfl
                                    have hcz44_5 : wr.cell? ⟨gb116, 5, none⟩ = some (.int .u64 a0_5) := (blk_cell BK116.out 5).trans rfl
                                    have hcz44_6 : wr.cell? ⟨gb116, 6, none⟩ = some (.int .u64 a0_6) := (blk_cell BK116.out 6).trans rfl
                                    have hcz44_7 : wr.cell? ⟨gb116, 7, none⟩ = some (.int .u64 a0_7) := (blk_cell BK116.out 7).trans rfl
                                    have hcz44_8 : wr.cell? ⟨gb116, 8, none⟩ = some (.int .u64 a0_8) := (blk_cell BK116.out 8).trans rfl
                                    have hcz44_9 : wr.cell? ⟨gb116, 9, none⟩ = some (.slice (some ad121) l0_9.length c0_9) := (blk_cell BK116.out 9).trans rfl
                                    have hcz44_10 : wr.cell? ⟨gb116, 10, none⟩ = some (.int .i64 a0_10) := (blk_cell BK116.out 10).trans rfl
                                    have hcz44_11 : wr.cell? ⟨gb116, 11, none⟩ = some (.int .u64 a0_11) := (blk_cell BK116.out 11).trans rfl
                                    have hcz44_12 : wr.cell? ⟨gb116, 12, none⟩ = some (.int .u64 a0_12) := (blk_cell BK116.out 12).trans rfl
                                    have hcz44_13 : wr.cell? ⟨gb116, 13, none⟩ = some (.int .u64 a0_13) := (blk_cell BK116.out 13).trans rfl
                                    have hcz44_14 : wr.cell? ⟨gb116, 14, none⟩ = some (.int .u64 a0_14) := (blk_cell BK116.out 14).trans rfl
                                    have hfz44_0 := blk_frozen BK116.out 0
                                    have hfz44_1 := blk_frozen BK116.out 1
                                    have hfz44_2 := blk_frozen BK116.out 2
                                    have hfz44_3 := blk_frozen BK116.out 3
                                    have hfz44_4 := blk_frozen BK116.out 4
                                    have hfz44_5 := blk_frozen BK116.out 5
                                    have hfz44_6 := blk_frozen BK116.out 6
                                    have hfz44_7 := blk_frozen BK116.out 7
                                    have hfz44_8 := blk_frozen BK116.out 8
                                    have hfz44_9 := blk_frozen BK116.out 9
                                    have hfz44_10 := blk_frozen BK116.out 10
                                    have hfz44_11 := blk_frozen BK116.out 11
                                    have hfz44_12 := blk_frozen BK116.out 12
                                    have hfz44_13 := blk_frozen BK116.out 13
                                    have hfz44_14 := blk_frozen BK116.out 14
                                    go_wp2_with (first | ((with_reducible refine gate_callee (f := 38) rfl ?_); refine goesL_ (some 82) rfl rfl Try.func38 (by kernel_rfl) rfl #[.int .i64 (rd l0_9 x74_3), .int .i64 1, .int .i64 a0_1] rfl (by (try simp only [List.map_toArray, List.map_cons, List.map_nil]); first | done | rfl | (simp only [List.length_drop, List.length_take]; rfl)) ?_; (with_reducible refine (impl_in.calls (rd l0_9 x74_3) 1 a0_1 true _ A36.out).mono ?_); rintro e w' ⟨rfl, ⟨nd, rfl⟩⟩; refine ⟨_, rfl, ?_⟩; have p123 : 0 ≤ ((ji39) : Int) := of_decide_eq_true (by first | (with_reducible assumption) | assumption); have q123 : (ji39) < (l0_9.length : Int) := of_decide_eq_true (by first | (with_reducible assumption) | assumption); obtain ⟨ad123, e123, hx123_0⟩ := Kd.at_int HR0_9.out (ji39) p123 q123; obtain rfl : ad121 = ad123 := (by injection e123); replace hx123_0 := (HB.out.cell (World.block_lt_of_cell? w _ hx123_0)).trans hx123_0; replace p123 := eq_true p123; replace q123 := eq_true q123))
                                    go_roundg k3
                                    case measure => have := HJ1.out; have := HJ19.out; have := HK3.out; omega
                                    case rel => exact ⟨(wrap64 (x74_3 + 1)), (by first | rfl | (simp; done) | (simp [*]; done)), H', ⟨by have := HJ1.out; have := HJ19.out; have := HK3.out; omega⟩, ⟨by (with_reducible repeat (first | refine blk_drewN ?_ _ | refine blk_drew ?_ | refine blk_alloc ?_ _)); exact BK116.out⟩, ⟨by repeat (first | (with_reducible first | exact HB.out | apply below_alloc | apply pw_below_drewN | apply below_drew1 | refine below_set ?_ GE116.out) | exact HB.out)⟩⟩
                                · rw [if_neg c41] at H
                                  exact absurd H (by simp)
                              · rw [if_neg c40] at H
                                exact absurd H (by simp)
                            · rw [if_neg c38] at H
                              have c38b0 : decide (0 < x74_3) = false := decide_eq_false c38
                              clear c38
                              have H' := Aside0.mk H
                              clear H
                              have p121 : 0 ≤ (x74_3 : Int) := of_decide_eq_true (by first | (with_reducible assumption) | assumption)
                              have q121 : x74_3 < (l0_9.length : Int) := of_decide_eq_true (by first | (with_reducible assumption) | assumption)
                              obtain ⟨ad121, e121, hx121_0⟩ := Kd.at_int HR0_9.out x74_3 p121 q121
                              cases e121
                              replace hx121_0 := (HB.out.cell (World.block_lt_of_cell? w _ hx121_0)).trans hx121_0
                              replace p121 := eq_true p121
                              replace q121 := eq_true q121
                              have hcz45_0 : wr.cell? ⟨gb116, 0, none⟩ = some (.int .i64 a0_0) := (blk_cell BK116.out 0).trans rfl
                              have hcz45_1 : wr.cell? ⟨gb116, 1, none⟩ = some (.int .i64 a0_1) := (blk_cell BK116.out 1).trans rfl
                              have hcz45_2 : wr.cell? ⟨gb116, 2, none⟩ = some (.int .i64 a0_2) := (blk_cell BK116.out 2).trans rfl
                              have hcz45_3 : wr.cell? ⟨gb116, 3, none⟩ = some (.int .i64 a0_3) := (blk_cell BK116.out 3).trans rfl
                              have hcz45_4 : wr.cell? ⟨gb116, 4, none⟩ = some (.int .i64 a0_4) := (blk_cell BK116.out 4).trans rfl
                              have hcz45_5 : wr.cell? ⟨gb116, 5, none⟩ = some (.int .u64 a0_5) := (blk_cell BK116.out 5).trans rfl
                              have hcz45_6 : wr.cell? ⟨gb116, 6, none⟩ = some (.int .u64 a0_6) := (blk_cell BK116.out 6).trans rfl
                              have hcz45_7 : wr.cell? ⟨gb116, 7, none⟩ = some (.int .u64 a0_7) := (blk_cell BK116.out 7).trans rfl
                              have hcz45_8 : wr.cell? ⟨gb116, 8, none⟩ = some (.int .u64 a0_8) := (blk_cell BK116.out 8).trans rfl
                              have hcz45_9 : wr.cell? ⟨gb116, 9, none⟩ = some (.slice (some ad121) l0_9.length c0_9) := (blk_cell BK116.out 9).trans rfl
                              have hcz45_10 : wr.cell? ⟨gb116, 10, none⟩ = some (.int .i64 a0_10) := (blk_cell BK116.out 10).trans rfl
                              have hcz45_11 : wr.cell? ⟨gb116, 11, none⟩ = some (.int .u64 a0_11) := (blk_cell BK116.out 11).trans rfl
                              have hcz45_12 : wr.cell? ⟨gb116, 12, none⟩ = some (.int .u64 a0_12) := (blk_cell BK116.out 12).trans rfl
                              have hcz45_13 : wr.cell? ⟨gb116, 13, none⟩ = some (.int .u64 a0_13) := (blk_cell BK116.out 13).trans rfl
                              have hcz45_14 : wr.cell? ⟨gb116, 14, none⟩ = some (.int .u64 a0_14) := (blk_cell BK116.out 14).trans rfl
                              have hfz45_0 := blk_frozen BK116.out 0
                              have hfz45_1 := blk_frozen BK116.out 1
                              have hfz45_2 := blk_frozen BK116.out 2
                              have hfz45_3 := blk_frozen BK116.out 3
                              have hfz45_4 := blk_frozen BK116.out 4
                              have hfz45_5 := blk_frozen BK116.out 5
                              have hfz45_6 := blk_frozen BK116.out 6
                              have hfz45_7 := blk_frozen BK116.out 7
                              have hfz45_8 := blk_frozen BK116.out 8
                              have hfz45_9 := blk_frozen BK116.out 9
                              have hfz45_10 := blk_frozen BK116.out 10
                              have hfz45_11 := blk_frozen BK116.out 11
                              have hfz45_12 := blk_frozen BK116.out 12
                              have hfz45_13 := blk_frozen BK116.out 13
                              have hfz45_14 := blk_frozen BK116.out 14
                              go_wp2_with (first | ((with_reducible refine gate_callee (f := 38) rfl ?_); refine goesL_ (some 82) rfl rfl Try.func38 (by kernel_rfl) rfl #[.int .i64 (rd l0_9 x74_3), .int .i64 1, .int .i64 a0_1] rfl (by (try simp only [List.map_toArray, List.map_cons, List.map_nil]); first | done | rfl | (simp only [List.length_drop, List.length_take]; rfl)) ?_; (with_reducible refine (impl_in.calls (rd l0_9 x74_3) 1 a0_1 true _ A36.out).mono ?_); rintro e w' ⟨rfl, ⟨nd, rfl⟩⟩; refine ⟨_, rfl, ?_⟩))
                              go_roundg k3
                              case measure => have := HJ1.out; have := HJ19.out; have := HK3.out; omega
                              case rel => exact ⟨(wrap64 (x74_3 + 1)), (by first | rfl | (simp; done) | (simp [*]; done)), H', ⟨by have := HJ1.out; have := HJ19.out; have := HK3.out; omega⟩, ⟨by (with_reducible repeat (first | refine blk_drewN ?_ _ | refine blk_drew ?_ | refine blk_alloc ?_ _)); exact BK116.out⟩, ⟨by repeat (first | (with_reducible first | exact HB.out | apply below_alloc | apply pw_below_drewN | apply below_drew1 | refine below_set ?_ GE116.out) | exact HB.out)⟩⟩
                          · replace c37 := Bool.eq_false_iff.mpr c37
                            subst c37
                            have H1 : (some false) = some r := by rw [if_neg (show ¬ (false = true) by decide)] at H; exact H
                            clear H
                            have H := H1
                            clear H1
                            obtain rfl := Option.some.inj H
                            have p121 : 0 ≤ (x74_3 : Int) := of_decide_eq_true (by first | (with_reducible assumption) | assumption)
                            have q121 : x74_3 < (l0_9.length : Int) := of_decide_eq_true (by first | (with_reducible assumption) | assumption)
                            obtain ⟨ad121, e121, hx121_0⟩ := Kd.at_int HR0_9.out x74_3 p121 q121
                            cases e121
                            replace hx121_0 := (HB.out.cell (World.block_lt_of_cell? w _ hx121_0)).trans hx121_0
                            replace p121 := eq_true p121
                            replace q121 := eq_true q121
                            have hcz46_0 : wr.cell? ⟨gb116, 0, none⟩ = some (.int .i64 a0_0) := (blk_cell BK116.out 0).trans rfl
                            have hcz46_1 : wr.cell? ⟨gb116, 1, none⟩ = some (.int .i64 a0_1) := (blk_cell BK116.out 1).trans rfl
                            have hcz46_2 : wr.cell? ⟨gb116, 2, none⟩ = some (.int .i64 a0_2) := (blk_cell BK116.out 2).trans rfl
                            have hcz46_3 : wr.cell? ⟨gb116, 3, none⟩ = some (.int .i64 a0_3) := (blk_cell BK116.out 3).trans rfl
                            have hcz46_4 : wr.cell? ⟨gb116, 4, none⟩ = some (.int .i64 a0_4) := (blk_cell BK116.out 4).trans rfl
                            have hcz46_5 : wr.cell? ⟨gb116, 5, none⟩ = some (.int .u64 a0_5) := (blk_cell BK116.out 5).trans rfl
                            have hcz46_6 : wr.cell? ⟨gb116, 6, none⟩ = some (.int .u64 a0_6) := (blk_cell BK116.out 6).trans rfl
                            have hcz46_7 : wr.cell? ⟨gb116, 7, none⟩ = some (.int .u64 a0_7) := (blk_cell BK116.out 7).trans rfl
                            have hcz46_8 : wr.cell? ⟨gb116, 8, none⟩ = some (.int .u64 a0_8) := (blk_cell BK116.out 8).trans rfl
                            have hcz46_9 : wr.cell? ⟨gb116, 9, none⟩ = some (.slice (some ad121) l0_9.length c0_9) := (blk_cell BK116.out 9).trans rfl
                            have hcz46_10 : wr.cell? ⟨gb116, 10, none⟩ = some (.int .i64 a0_10) := (blk_cell BK116.out 10).trans rfl
                            have hcz46_11 : wr.cell? ⟨gb116, 11, none⟩ = some (.int .u64 a0_11) := (blk_cell BK116.out 11).trans rfl
                            have hcz46_12 : wr.cell? ⟨gb116, 12, none⟩ = some (.int .u64 a0_12) := (blk_cell BK116.out 12).trans rfl
                            have hcz46_13 : wr.cell? ⟨gb116, 13, none⟩ = some (.int .u64 a0_13) := (blk_cell BK116.out 13).trans rfl
                            have hcz46_14 : wr.cell? ⟨gb116, 14, none⟩ = some (.int .u64 a0_14) := (blk_cell BK116.out 14).trans rfl
                            have hfz46_0 := blk_frozen BK116.out 0
                            have hfz46_1 := blk_frozen BK116.out 1
                            have hfz46_2 := blk_frozen BK116.out 2
                            have hfz46_3 := blk_frozen BK116.out 3
                            have hfz46_4 := blk_frozen BK116.out 4
                            have hfz46_5 := blk_frozen BK116.out 5
                            have hfz46_6 := blk_frozen BK116.out 6
                            have hfz46_7 := blk_frozen BK116.out 7
                            have hfz46_8 := blk_frozen BK116.out 8
                            have hfz46_9 := blk_frozen BK116.out 9
                            have hfz46_10 := blk_frozen BK116.out 10
                            have hfz46_11 := blk_frozen BK116.out 11
                            have hfz46_12 := blk_frozen BK116.out 12
                            have hfz46_13 := blk_frozen BK116.out 13
                            have hfz46_14 := blk_frozen BK116.out 14
                            go_wp2_with (first | ((with_reducible refine gate_callee (f := 38) rfl ?_); refine goesL_ (some 82) rfl rfl Try.func38 (by kernel_rfl) rfl #[.int .i64 (rd l0_9 x74_3), .int .i64 1, .int .i64 a0_1] rfl (by (try simp only [List.map_toArray, List.map_cons, List.map_nil]); first | done | rfl | (simp only [List.length_drop, List.length_take]; rfl)) ?_; (with_reducible refine (impl_in.calls (rd l0_9 x74_3) 1 a0_1 false _ A36.out).mono ?_); rintro e w' ⟨rfl, ⟨nd, rfl⟩⟩; refine ⟨_, rfl, ?_⟩))
                            go_ret
                            exact ⟨by first | rfl | (simp [errW_none, errW_some] <;> rfl) | (simp [*, errW_none, errW_some] <;> rfl), by repeat (first | (with_reducible first | exact HB.out | apply below_alloc | apply pw_below_drewN | apply below_drew1 | refine below_set ?_ GE116.out) | exact HB.out)⟩
                        · rw [if_neg c35] at H
                          exact absurd H (by simp)
                      · rw [if_neg c34] at H
                        exact absurd H (by simp)
                    · rw [if_neg c33] at H
                      have c33b0 : decide (x74_3 < (l0_9.length : Int)) = false := decide_eq_false c33
                      clear c33
                      by_cases c47 : a0_2 = 0
                      · rw [if_pos c47] at H
                        have c47b0 : (a0_2 == 0) = true := beq_iff_eq.mpr c47
                        have c47b1 : (a0_2 != 0) = false := bne_eq_false_iff_eq.mpr c47
                        clear c47
                        obtain rfl := Option.some.inj H
                        have hcz48_0 : wr.cell? ⟨gb116, 0, none⟩ = some (.int .i64 a0_0) := (blk_cell BK116.out 0).trans rfl
                        have hcz48_1 : wr.cell? ⟨gb116, 1, none⟩ = some (.int .i64 a0_1) := (blk_cell BK116.out 1).trans rfl
                        have hcz48_2 : wr.cell? ⟨gb116, 2, none⟩ = some (.int .i64 a0_2) := (blk_cell BK116.out 2).trans rfl
                        have hcz48_3 : wr.cell? ⟨gb116, 3, none⟩ = some (.int .i64 a0_3) := (blk_cell BK116.out 3).trans rfl
                        have hcz48_4 : wr.cell? ⟨gb116, 4, none⟩ = some (.int .i64 a0_4) := (blk_cell BK116.out 4).trans rfl
                        have hcz48_5 : wr.cell? ⟨gb116, 5, none⟩ = some (.int .u64 a0_5) := (blk_cell BK116.out 5).trans rfl
                        have hcz48_6 : wr.cell? ⟨gb116, 6, none⟩ = some (.int .u64 a0_6) := (blk_cell BK116.out 6).trans rfl
                        have hcz48_7 : wr.cell? ⟨gb116, 7, none⟩ = some (.int .u64 a0_7) := (blk_cell BK116.out 7).trans rfl
                        have hcz48_8 : wr.cell? ⟨gb116, 8, none⟩ = some (.int .u64 a0_8) := (blk_cell BK116.out 8).trans rfl
                        have hcz48_9 : wr.cell? ⟨gb116, 9, none⟩ = some (.slice A0_9 l0_9.length c0_9) := (blk_cell BK116.out 9).trans rfl
                        have hcz48_10 : wr.cell? ⟨gb116, 10, none⟩ = some (.int .i64 a0_10) := (blk_cell BK116.out 10).trans rfl
                        have hcz48_11 : wr.cell? ⟨gb116, 11, none⟩ = some (.int .u64 a0_11) := (blk_cell BK116.out 11).trans rfl
                        have hcz48_12 : wr.cell? ⟨gb116, 12, none⟩ = some (.int .u64 a0_12) := (blk_cell BK116.out 12).trans rfl
                        have hcz48_13 : wr.cell? ⟨gb116, 13, none⟩ = some (.int .u64 a0_13) := (blk_cell BK116.out 13).trans rfl
                        have hcz48_14 : wr.cell? ⟨gb116, 14, none⟩ = some (.int .u64 a0_14) := (blk_cell BK116.out 14).trans rfl
                        have hfz48_0 := blk_frozen BK116.out 0
                        have hfz48_1 := blk_frozen BK116.out 1
                        have hfz48_2 := blk_frozen BK116.out 2
                        have hfz48_3 := blk_frozen BK116.out 3
                        have hfz48_4 := blk_frozen BK116.out 4
                        have hfz48_5 := blk_frozen BK116.out 5
                        have hfz48_6 := blk_frozen BK116.out 6
                        have hfz48_7 := blk_frozen BK116.out 7
                        have hfz48_8 := blk_frozen BK116.out 8
                        have hfz48_9 := blk_frozen BK116.out 9
                        have hfz48_10 := blk_frozen BK116.out 10
                        have hfz48_11 := blk_frozen BK116.out 11
                        have hfz48_12 := blk_frozen BK116.out 12
                        have hfz48_13 := blk_frozen BK116.out 13
                        have hfz48_14 := blk_frozen BK116.out 14
                        go_wp2
                        go_ret
                        exact ⟨by first | rfl | (simp [errW_none, errW_some] <;> rfl) | (simp [*, errW_none, errW_some] <;> rfl), by repeat (first | (with_reducible first | exact HB.out | apply below_alloc | apply pw_below_drewN | apply below_drew1 | refine below_set ?_ GE116.out) | exact HB.out)⟩
                      · rw [if_neg c47] at H
                        have c47b0 : (a0_2 == 0) = false := beq_eq_false_iff_ne.mpr c47
                        have c47b1 : (a0_2 != 0) = true := bne_iff_ne.mpr c47
                        replace H := Option.bind_eq_some_iff.mp H
                        obtain ⟨t124, A490, H⟩ := H
                        replace H : (if t124 = true then (some (decide ((l0_9.length : Int) < a0_0))) else (some false)) = some r := H
                        have A49 := Aside0.mk A490
                        clear A490
                        by_cases c50 : t124 = true
                        · subst c50
                          have H1 : (some (decide ((l0_9.length : Int) < a0_0))) = some r := by rw [if_pos rfl] at H; exact H
                          clear H
                          have H := H1
                          clear H1
                          obtain rfl := Option.some.inj H
                          have hcz51_0 : wr.cell? ⟨gb116, 0, none⟩ = some (.int .i64 a0_0) := (blk_cell BK116.out 0).trans rfl
                          have hcz51_1 : wr.cell? ⟨gb116, 1, none⟩ = some (.int .i64 a0_1) := (blk_cell BK116.out 1).trans rfl
                          have hcz51_2 : wr.cell? ⟨gb116, 2, none⟩ = some (.int .i64 a0_2) := (blk_cell BK116.out 2).trans rfl
                          have hcz51_3 : wr.cell? ⟨gb116, 3, none⟩ = some (.int .i64 a0_3) := (blk_cell BK116.out 3).trans rfl
                          have hcz51_4 : wr.cell? ⟨gb116, 4, none⟩ = some (.int .i64 a0_4) := (blk_cell BK116.out 4).trans rfl
                          have hcz51_5 : wr.cell? ⟨gb116, 5, none⟩ = some (.int .u64 a0_5) := (blk_cell BK116.out 5).trans rfl
                          have hcz51_6 : wr.cell? ⟨gb116, 6, none⟩ = some (.int .u64 a0_6) := (blk_cell BK116.out 6).trans rfl
                          have hcz51_7 : wr.cell? ⟨gb116, 7, none⟩ = some (.int .u64 a0_7) := (blk_cell BK116.out 7).trans rfl
                          have hcz51_8 : wr.cell? ⟨gb116, 8, none⟩ = some (.int .u64 a0_8) := (blk_cell BK116.out 8).trans rfl
                          have hcz51_9 : wr.cell? ⟨gb116, 9, none⟩ = some (.slice A0_9 l0_9.length c0_9) := (blk_cell BK116.out 9).trans rfl
                          have hcz51_10 : wr.cell? ⟨gb116, 10, none⟩ = some (.int .i64 a0_10) := (blk_cell BK116.out 10).trans rfl
                          have hcz51_11 : wr.cell? ⟨gb116, 11, none⟩ = some (.int .u64 a0_11) := (blk_cell BK116.out 11).trans rfl
                          have hcz51_12 : wr.cell? ⟨gb116, 12, none⟩ = some (.int .u64 a0_12) := (blk_cell BK116.out 12).trans rfl
                          have hcz51_13 : wr.cell? ⟨gb116, 13, none⟩ = some (.int .u64 a0_13) := (blk_cell BK116.out 13).trans rfl
                          have hcz51_14 : wr.cell? ⟨gb116, 14, none⟩ = some (.int .u64 a0_14) := (blk_cell BK116.out 14).trans rfl
                          have hfz51_0 := blk_frozen BK116.out 0
                          have hfz51_1 := blk_frozen BK116.out 1
                          have hfz51_2 := blk_frozen BK116.out 2
                          have hfz51_3 := blk_frozen BK116.out 3
                          have hfz51_4 := blk_frozen BK116.out 4
                          have hfz51_5 := blk_frozen BK116.out 5
                          have hfz51_6 := blk_frozen BK116.out 6
                          have hfz51_7 := blk_frozen BK116.out 7
                          have hfz51_8 := blk_frozen BK116.out 8
                          have hfz51_9 := blk_frozen BK116.out 9
                          have hfz51_10 := blk_frozen BK116.out 10
                          have hfz51_11 := blk_frozen BK116.out 11
                          have hfz51_12 := blk_frozen BK116.out 12
                          have hfz51_13 := blk_frozen BK116.out 13
                          have hfz51_14 := blk_frozen BK116.out 14
                          go_wp2_with (first | (go_at_call 38; (with_reducible refine (impl_in.calls a0_4 (wrap64 (a0_10 + 1)) 256 true _ A49.out).mono ?_); rintro e w' ⟨rfl, ⟨nd, rfl⟩⟩))
                          go_ret
                          exact ⟨by first | rfl | (simp [errW_none, errW_some] <;> rfl) | (simp [*, errW_none, errW_some] <;> rfl), by repeat (first | (with_reducible first | exact HB.out | apply below_alloc | apply pw_below_drewN | apply below_drew1 | refine below_set ?_ GE116.out) | exact HB.out)⟩
                        · replace c50 := Bool.eq_false_iff.mpr c50
                          subst c50
                          have H1 : (some false) = some r := by rw [if_neg (show ¬ (false = true) by decide)] at H; exact H
                          clear H
                          have H := H1
                          clear H1
                          obtain rfl := Option.some.inj H
                          have hcz52_0 : wr.cell? ⟨gb116, 0, none⟩ = some (.int .i64 a0_0) := (blk_cell BK116.out 0).trans rfl
                          have hcz52_1 : wr.cell? ⟨gb116, 1, none⟩ = some (.int .i64 a0_1) := (blk_cell BK116.out 1).trans rfl
                          have hcz52_2 : wr.cell? ⟨gb116, 2, none⟩ = some (.int .i64 a0_2) := (blk_cell BK116.out 2).trans rfl
                          have hcz52_3 : wr.cell? ⟨gb116, 3, none⟩ = some (.int .i64 a0_3) := (blk_cell BK116.out 3).trans rfl
                          have hcz52_4 : wr.cell? ⟨gb116, 4, none⟩ = some (.int .i64 a0_4) := (blk_cell BK116.out 4).trans rfl
                          have hcz52_5 : wr.cell? ⟨gb116, 5, none⟩ = some (.int .u64 a0_5) := (blk_cell BK116.out 5).trans rfl
                          have hcz52_6 : wr.cell? ⟨gb116, 6, none⟩ = some (.int .u64 a0_6) := (blk_cell BK116.out 6).trans rfl
                          have hcz52_7 : wr.cell? ⟨gb116, 7, none⟩ = some (.int .u64 a0_7) := (blk_cell BK116.out 7).trans rfl
                          have hcz52_8 : wr.cell? ⟨gb116, 8, none⟩ = some (.int .u64 a0_8) := (blk_cell BK116.out 8).trans rfl
                          have hcz52_9 : wr.cell? ⟨gb116, 9, none⟩ = some (.slice A0_9 l0_9.length c0_9) := (blk_cell BK116.out 9).trans rfl
                          have hcz52_10 : wr.cell? ⟨gb116, 10, none⟩ = some (.int .i64 a0_10) := (blk_cell BK116.out 10).trans rfl
                          have hcz52_11 : wr.cell? ⟨gb116, 11, none⟩ = some (.int .u64 a0_11) := (blk_cell BK116.out 11).trans rfl
                          have hcz52_12 : wr.cell? ⟨gb116, 12, none⟩ = some (.int .u64 a0_12) := (blk_cell BK116.out 12).trans rfl
                          have hcz52_13 : wr.cell? ⟨gb116, 13, none⟩ = some (.int .u64 a0_13) := (blk_cell BK116.out 13).trans rfl
                          have hcz52_14 : wr.cell? ⟨gb116, 14, none⟩ = some (.int .u64 a0_14) := (blk_cell BK116.out 14).trans rfl
                          have hfz52_0 := blk_frozen BK116.out 0
                          have hfz52_1 := blk_frozen BK116.out 1
                          have hfz52_2 := blk_frozen BK116.out 2
                          have hfz52_3 := blk_frozen BK116.out 3
                          have hfz52_4 := blk_frozen BK116.out 4
                          have hfz52_5 := blk_frozen BK116.out 5
                          have hfz52_6 := blk_frozen BK116.out 6
                          have hfz52_7 := blk_frozen BK116.out 7
                          have hfz52_8 := blk_frozen BK116.out 8
                          have hfz52_9 := blk_frozen BK116.out 9
                          have hfz52_10 := blk_frozen BK116.out 10
                          have hfz52_11 := blk_frozen BK116.out 11
                          have hfz52_12 := blk_frozen BK116.out 12
                          have hfz52_13 := blk_frozen BK116.out 13
                          have hfz52_14 := blk_frozen BK116.out 14
                          go_wp2_with (first | (go_at_call 38; (with_reducible refine (impl_in.calls a0_4 (wrap64 (a0_10 + 1)) 256 false _ A49.out).mono ?_); rintro e w' ⟨rfl, ⟨nd, rfl⟩⟩))
                          go_ret
                          exact ⟨by first | rfl | (simp [errW_none, errW_some] <;> rfl) | (simp [*, errW_none, errW_some] <;> rfl), by repeat (first | (with_reducible first | exact HB.out | apply below_alloc | apply pw_below_drewN | apply below_drew1 | refine below_set ?_ GE116.out) | exact HB.out)⟩
              · rw [if_neg c31] at H
                have c31b0 : (a0_3 == 2) = false := beq_eq_false_iff_ne.mpr c31
                have c31b1 : (a0_3 != 2) = true := bne_iff_ne.mpr c31
                obtain rfl := Option.some.inj H
                go_wp2
                go_ret
                exact ⟨by first | rfl | (simp [errW_none, errW_some] <;> rfl) | (simp [*, errW_none, errW_some] <;> rfl), by repeat (first | (with_reducible first | exact HB.out | apply below_alloc | apply pw_below_drewN | apply below_drew1 | refine below_set ?_ GE116.out) | exact HB.out)⟩

end Go.Proofs.Ytpdcdajccfccbaa.Q
