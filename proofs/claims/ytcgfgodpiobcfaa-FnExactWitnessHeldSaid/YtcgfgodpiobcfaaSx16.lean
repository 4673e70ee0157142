/- The walk of functions of the given program: what each computes, as a Lean function, and that the code comes to it. Written by a program of this session's. No condition but each theorem's own. -/
import Derived.Test.YtcgfgodpiobcfaaSD
import Derived.Test.YtcgfgodpiobcfaaSx14
namespace Go.Proofs.Ytcgfgodpiobcfaa.S
open Go.RowKit Go.Proofs.YtcgfgodpiobcfaaW.PrintWords Go.Proofs.YtcgfgodpiobcfaaW.PrintLast Go.Proofs.YtcgfgodpiobcfaaW.PrintMore
attribute [local go_sem] max2_int min2_int max_two min_two max_three min_three max_four min_four   -- for this text's walks alone
set_option linter.unusedVariables false
set_option linter.unusedSimpArgs false

/-! ### spec_RecordRead: function 30 -/
set_option maxHeartbeats 8000000 in
set_option maxRecDepth 100000 in
theorem spec_RecordRead.calls (k : Nat) (a0_0 : Int) (a0_1 : Int) (a0_2 : Int) (a0_3 : Int) (a0_4 : Int) (a0_5 : Int) (a0_6 : Int) (a0_7 : Int) (a0_8 : Int) (a0_9 : Int) (a0_10 : Int) (a0_11 : Int) (a0_12 : Int) (a0_13 : Int) (r1 : Int) (r2 : Int) (r3 : Int) (r4 : Int) (r5 : Int) (r6 : Int) (r7 : Int) (w : World) (h : spec_RecordRead.f k a0_0 a0_1 a0_2 a0_3 a0_4 a0_5 a0_6 a0_7 a0_8 a0_9 a0_10 a0_11 a0_12 a0_13 = some (r1, r2, r3, r4, r5, r6, r7)) :
    Calls Try.prog 30 #[.agg #[.int .u64 a0_0, .int .u64 a0_1, .int .u64 a0_2, .int .u64 a0_3, .int .u64 a0_4, .int .u64 a0_5, .int .u64 a0_6, .int .u64 a0_7, .int .u64 a0_8, .int .u64 a0_9, .int .u64 a0_10, .int .u64 a0_11, .int .u64 a0_12, .int .u64 a0_13]] w fun e w' => e = .returned (.tuple #[.agg #[.int .i64 r1, .int .i64 r2, .int .u64 r3, .int .u64 r4, .int .u64 r5, .int .u64 r6], .int .i64 r7]) ∧ Below w.heap.size w w' := by
  have hu38 := Try.underlying38
  have hu50 := Try.underlying50
  have hu30 := Try.underlying30
  have hu28 := Try.underlying28
  have HB := Aside0.mk (Below.refl w.heap.size w)
  have H : ((spec_SlotOk.f k a0_0 a0_1 a0_2 a0_3 a0_4 a0_5 a0_6).bind fun t194 => ((spec_SlotOk.f k a0_7 a0_8 a0_9 a0_10 a0_11 a0_12 a0_13).bind fun t195 => (if t194 = true then (if t195 = true then (spec_RecordRead.j0 k t195 (decide (a0_1 ≥ a0_8)) a0_0 a0_1 a0_2 a0_3 a0_4 a0_5 a0_6 a0_7 a0_8 a0_9 a0_10 a0_11 a0_12 a0_13) else (spec_RecordRead.j0 k t195 true a0_0 a0_1 a0_2 a0_3 a0_4 a0_5 a0_6 a0_7 a0_8 a0_9 a0_10 a0_11 a0_12 a0_13)) else (spec_RecordRead.j0 k t195 false a0_0 a0_1 a0_2 a0_3 a0_4 a0_5 a0_6 a0_7 a0_8 a0_9 a0_10 a0_11 a0_12 a0_13)))) = some (r1, r2, r3, r4, r5, r6, r7) := h
  clear h
  replace H := Option.bind_eq_some_iff.mp H
  obtain ⟨t194, A20, H⟩ := H
  replace H : ((spec_SlotOk.f k a0_7 a0_8 a0_9 a0_10 a0_11 a0_12 a0_13).bind fun t195 => (if t194 = true then (if t195 = true then (spec_RecordRead.j0 k t195 (decide (a0_1 ≥ a0_8)) a0_0 a0_1 a0_2 a0_3 a0_4 a0_5 a0_6 a0_7 a0_8 a0_9 a0_10 a0_11 a0_12 a0_13) else (spec_RecordRead.j0 k t195 true a0_0 a0_1 a0_2 a0_3 a0_4 a0_5 a0_6 a0_7 a0_8 a0_9 a0_10 a0_11 a0_12 a0_13)) else (spec_RecordRead.j0 k t195 false a0_0 a0_1 a0_2 a0_3 a0_4 a0_5 a0_6 a0_7 a0_8 a0_9 a0_10 a0_11 a0_12 a0_13))) = some (r1, r2, r3, r4, r5, r6, r7) := H
  have A2 := Aside0.mk A20
  clear A20
  replace H := Option.bind_eq_some_iff.mp H
  obtain ⟨t195, A30, H⟩ := H
  replace H : (if t194 = true then (if t195 = true then (spec_RecordRead.j0 k t195 (decide (a0_1 ≥ a0_8)) a0_0 a0_1 a0_2 a0_3 a0_4 a0_5 a0_6 a0_7 a0_8 a0_9 a0_10 a0_11 a0_12 a0_13) else (spec_RecordRead.j0 k t195 true a0_0 a0_1 a0_2 a0_3 a0_4 a0_5 a0_6 a0_7 a0_8 a0_9 a0_10 a0_11 a0_12 a0_13)) else (spec_RecordRead.j0 k t195 false a0_0 a0_1 a0_2 a0_3 a0_4 a0_5 a0_6 a0_7 a0_8 a0_9 a0_10 a0_11 a0_12 a0_13)) = some (r1, r2, r3, r4, r5, r6, r7) := H
  have A3 := Aside0.mk A30
  clear A30
  have HC4 := Aside0.mk H
  clear H
  go_enter Try.func30, Try.ntmps30
  go_upto_region 3 with (first | ((with_reducible refine gate_dst (N := 1) rfl ?_); refine box_event ?hg (N := 1) ?hd (cs := #[.int .u64 a0_0, .int .u64 a0_1, .int .u64 a0_2, .int .u64 a0_3, .int .u64 a0_4, .int .u64 a0_5, .int .u64 a0_6, .int .u64 a0_7, .int .u64 a0_8, .int .u64 a0_9, .int .u64 a0_10, .int .u64 a0_11, .int .u64 a0_12, .int .u64 a0_13]) (t := 38) ?hr ?_; (case hd => rfl); (case hg => rfl); (case hr => first | (go_simp; done) | (go_simp; rfl)); intro gb192 hg w5 hbox hb; have n0_ := Aside0.mk (below_step (by repeat (first | (with_reducible first | exact HB.out | apply below_alloc | apply pw_below_drewN | apply below_drew1) | exact HB.out)) hb); have n1_ := Aside0.mk (hbox); have n2_ := Aside0.mk ((by rw [hg]; exact (below_size (by repeat (first | (with_reducible first | exact HB.out | apply below_alloc | apply pw_below_drewN | apply below_drew1) | exact HB.out))) : w.heap.size ≤ gb192)); have n3_ := Aside0.mk ((by rw [hg]; exact (below_size (by repeat (first | (with_reducible first | exact HB.out | apply below_alloc | apply pw_below_drewN | apply below_drew1) | exact HB.out))) : w.heap.size ≤ gb192)); clear HB; have HB := n0_; have BK192 := n1_; have GW192 := n2_; have GE192 := n3_; clear n0_ n1_ n2_ n3_; clear hb hbox hg) | ((with_reducible refine gate_dst (N := 2) rfl ?_); refine box_event ?hg (N := 2) ?hd (cs := #[.int .i64 0, .int .i64 0, .int .u64 0, .int .u64 0, .int .u64 0, .int .u64 0]) (t := 50) ?hr ?_; (case hd => rfl); (case hg => rfl); (case hr => first | (go_simp; done) | (go_simp; rfl)); intro gb193 hg w6 hbox hb; have n0_ := Aside0.mk (blk_below (g := gb192) (o := .cells #[.int .u64 a0_0, .int .u64 a0_1, .int .u64 a0_2, .int .u64 a0_3, .int .u64 a0_4, .int .u64 a0_5, .int .u64 a0_6, .int .u64 a0_7, .int .u64 a0_8, .int .u64 a0_9, .int .u64 a0_10, .int .u64 a0_11, .int .u64 a0_12, .int .u64 a0_13] 38 (0, 0)) (by (with_reducible repeat (first | refine blk_drewN ?_ _ | refine blk_drew ?_ | refine blk_alloc ?_ _)); exact BK192.out) hb); have n1_ := Aside0.mk (below_step (by repeat (first | (with_reducible first | exact HB.out | apply below_alloc | apply pw_below_drewN | apply below_drew1 | refine below_set ?_ GE192.out) | exact HB.out)) hb); have n2_ := Aside0.mk (hbox); have n3_ := Aside0.mk ((by rw [hg]; exact (below_size (by repeat (first | (with_reducible first | exact HB.out | apply below_alloc | apply pw_below_drewN | apply below_drew1 | refine below_set ?_ GE192.out) | exact HB.out))) : w.heap.size ≤ gb193)); have n4_ := Aside0.mk ((by rw [hg]; exact (below_size (by repeat (first | (with_reducible first | exact HB.out | apply below_alloc | apply pw_below_drewN | apply below_drew1 | refine below_set ?_ GE192.out) | exact HB.out))) : w.heap.size ≤ gb193)); have n5_ := Aside0.mk ((by rw [hg]; exact Nat.ne_of_lt (blk_lt (g := gb192) (o := .cells #[.int .u64 a0_0, .int .u64 a0_1, .int .u64 a0_2, .int .u64 a0_3, .int .u64 a0_4, .int .u64 a0_5, .int .u64 a0_6, .int .u64 a0_7, .int .u64 a0_8, .int .u64 a0_9, .int .u64 a0_10, .int .u64 a0_11, .int .u64 a0_12, .int .u64 a0_13] 38 (0, 0)) (by (with_reducible repeat (first | refine blk_drewN ?_ _ | refine blk_drew ?_ | refine blk_alloc ?_ _)); exact BK192.out)) : gb192 ≠ gb193)); have n6_ := Aside0.mk ((by rw [hg]; exact Nat.ne_of_gt (blk_lt (g := gb192) (o := .cells #[.int .u64 a0_0, .int .u64 a0_1, .int .u64 a0_2, .int .u64 a0_3, .int .u64 a0_4, .int .u64 a0_5, .int .u64 a0_6, .int .u64 a0_7, .int .u64 a0_8, .int .u64 a0_9, .int .u64 a0_10, .int .u64 a0_11, .int .u64 a0_12, .int .u64 a0_13] 38 (0, 0)) (by (with_reducible repeat (first | refine blk_drewN ?_ _ | refine blk_drew ?_ | refine blk_alloc ?_ _)); exact BK192.out)) : gb193 ≠ gb192)); clear BK192; clear HB; have BK192 := n0_; have HB := n1_; have BK193 := n2_; have GW193 := n3_; have GE193 := n4_; have NB192_193 := n5_; have NB193_192 := n6_; clear n0_ n1_ n2_ n3_ n4_ n5_ n6_; clear hb hbox hg; have hnb7 := NB192_193.out; have hnc7 := NB193_192.out; have hcz8_0 : w6.cell? ⟨gb192, 0, none⟩ = some (.int .u64 a0_0) := (blk_cell BK192.out 0).trans rfl; have hcz8_1 : w6.cell? ⟨gb192, 1, none⟩ = some (.int .u64 a0_1) := (blk_cell BK192.out 1).trans rfl; have hcz8_2 : w6.cell? ⟨gb192, 2, none⟩ = some (.int .u64 a0_2) := (blk_cell BK192.out 2).trans rfl; have hcz8_3 : w6.cell? ⟨gb192, 3, none⟩ = some (.int .u64 a0_3) := (blk_cell BK192.out 3).trans rfl; have hcz8_4 : w6.cell? ⟨gb192, 4, none⟩ = some (.int .u64 a0_4) := (blk_cell BK192.out 4).trans rfl; have hcz8_5 : w6.cell? ⟨gb192, 5, none⟩ = some (.int .u64 a0_5) := (blk_cell BK192.out 5).trans rfl; have hcz8_6 : w6.cell? ⟨gb192, 6, none⟩ = some (.int .u64 a0_6) := (blk_cell BK192.out 6).trans rfl; have hcz8_7 : w6.cell? ⟨gb192, 7, none⟩ = some (.int .u64 a0_7) := (blk_cell BK192.out 7).trans rfl; have hcz8_8 : w6.cell? ⟨gb192, 8, none⟩ = some (.int .u64 a0_8) := (blk_cell BK192.out 8).trans rfl; have hcz8_9 : w6.cell? ⟨gb192, 9, none⟩ = some (.int .u64 a0_9) := (blk_cell BK192.out 9).trans rfl; have hcz8_10 : w6.cell? ⟨gb192, 10, none⟩ = some (.int .u64 a0_10) := (blk_cell BK192.out 10).trans rfl; have hcz8_11 : w6.cell? ⟨gb192, 11, none⟩ = some (.int .u64 a0_11) := (blk_cell BK192.out 11).trans rfl; have hcz8_12 : w6.cell? ⟨gb192, 12, none⟩ = some (.int .u64 a0_12) := (blk_cell BK192.out 12).trans rfl; have hcz8_13 : w6.cell? ⟨gb192, 13, none⟩ = some (.int .u64 a0_13) := (blk_cell BK192.out 13).trans rfl; have hfz8_0 := blk_frozen BK192.out 0; have hfz8_1 := blk_frozen BK192.out 1; have hfz8_2 := blk_frozen BK192.out 2; have hfz8_3 := blk_frozen BK192.out 3; have hfz8_4 := blk_frozen BK192.out 4; have hfz8_5 := blk_frozen BK192.out 5; have hfz8_6 := blk_frozen BK192.out 6; have hfz8_7 := blk_frozen BK192.out 7; have hfz8_8 := blk_frozen BK192.out 8; have hfz8_9 := blk_frozen BK192.out 9; have hfz8_10 := blk_frozen BK192.out 10; have hfz8_11 := blk_frozen BK192.out 11; have hfz8_12 := blk_frozen BK192.out 12; have hfz8_13 := blk_frozen BK192.out 13) | ((with_reducible refine gate_callee (f := 26) rfl ?_); refine goesL_ (some 8) rfl rfl Try.func26 (by kernel_rfl) rfl #[.agg #[.int .u64 a0_0, .int .u64 a0_1, .int .u64 a0_2, .int .u64 a0_3, .int .u64 a0_4, .int .u64 a0_5, .int .u64 a0_6]] rfl (by (try simp only [List.map_toArray, List.map_cons, List.map_nil]); first | done | rfl | (simp only [List.length_drop, List.length_take]; rfl)) ?_; (with_reducible refine (spec_SlotOk.calls k a0_0 a0_1 a0_2 a0_3 a0_4 a0_5 a0_6 t194 _ A2.out).mono ?_); rintro e w9 ⟨rfl, hb⟩; refine ⟨_, rfl, ?_⟩; have n0_ := Aside0.mk (blk_below (g := gb192) (o := .cells #[.int .u64 a0_0, .int .u64 a0_1, .int .u64 a0_2, .int .u64 a0_3, .int .u64 a0_4, .int .u64 a0_5, .int .u64 a0_6, .int .u64 a0_7, .int .u64 a0_8, .int .u64 a0_9, .int .u64 a0_10, .int .u64 a0_11, .int .u64 a0_12, .int .u64 a0_13] 38 (0, 0)) (by (with_reducible repeat (first | refine blk_drewN ?_ _ | refine blk_drew ?_ | refine blk_alloc ?_ _)); exact BK192.out) hb); have n1_ := Aside0.mk (blk_below (g := gb193) (o := .cells #[.int .i64 0, .int .i64 0, .int .u64 0, .int .u64 0, .int .u64 0, .int .u64 0] 50 (0, 0)) (by (with_reducible repeat (first | refine blk_drewN ?_ _ | refine blk_drew ?_ | refine blk_alloc ?_ _)); exact BK193.out) hb); have n2_ := Aside0.mk (below_step (by repeat (first | (with_reducible first | exact HB.out | apply below_alloc | apply pw_below_drewN | apply below_drew1 | refine below_set ?_ GE192.out | refine below_set ?_ GE193.out) | exact HB.out)) hb); clear BK192; clear BK193; clear HB; have BK192 := n0_; have BK193 := n1_; have HB := n2_; clear n0_ n1_ n2_; (try clear hb); (try clear hb2); (try clear hk); (try clear hi); have hcz10_0 : w9.cell? ⟨gb192, 0, none⟩ = some (.int .u64 a0_0) := (blk_cell BK192.out 0).trans rfl; have hcz10_1 : w9.cell? ⟨gb192, 1, none⟩ = some (.int .u64 a0_1) := (blk_cell BK192.out 1).trans rfl; have hcz10_2 : w9.cell? ⟨gb192, 2, none⟩ = some (.int .u64 a0_2) := (blk_cell BK192.out 2).trans rfl; have hcz10_3 : w9.cell? ⟨gb192, 3, none⟩ = some (.int .u64 a0_3) := (blk_cell BK192.out 3).trans rfl; have hcz10_4 : w9.cell? ⟨gb192, 4, none⟩ = some (.int .u64 a0_4) := (blk_cell BK192.out 4).trans rfl; have hcz10_5 : w9.cell? ⟨gb192, 5, none⟩ = some (.int .u64 a0_5) := (blk_cell BK192.out 5).trans rfl; have hcz10_6 : w9.cell? ⟨gb192, 6, none⟩ = some (.int .u64 a0_6) := (blk_cell BK192.out 6).trans rfl; have hcz10_7 : w9.cell? ⟨gb192, 7, none⟩ = some (.int .u64 a0_7) := (blk_cell BK192.out 7).trans rfl; have hcz10_8 : w9.cell? ⟨gb192, 8, none⟩ = some (.int .u64 a0_8) := (blk_cell BK192.out 8).trans rfl; have hcz10_9 : w9.cell? ⟨gb192, 9, none⟩ = some (.int .u64 a0_9) := (blk_cell BK192.out 9).trans rfl; have hcz10_10 : w9.cell? ⟨gb192, 10, none⟩ = some (.int .u64 a0_10) := (blk_cell BK192.out 10).trans rfl; have hcz10_11 : w9.cell? ⟨gb192, 11, none⟩ = some (.int .u64 a0_11) := (blk_cell BK192.out 11).trans rfl; have hcz10_12 : w9.cell? ⟨gb192, 12, none⟩ = some (.int .u64 a0_12) := (blk_cell BK192.out 12).trans rfl; have hcz10_13 : w9.cell? ⟨gb192, 13, none⟩ = some (.int .u64 a0_13) := (blk_cell BK192.out 13).trans rfl; have hfz10_0 := blk_frozen BK192.out 0; have hfz10_1 := blk_frozen BK192.out 1; have hfz10_2 := blk_frozen BK192.out 2; have hfz10_3 := blk_frozen BK192.out 3; have hfz10_4 := blk_frozen BK192.out 4; have hfz10_5 := blk_frozen BK192.out 5; have hfz10_6 := blk_frozen BK192.out 6; have hfz10_7 := blk_frozen BK192.out 7; have hfz10_8 := blk_frozen BK192.out 8; have hfz10_9 := blk_frozen BK192.out 9; have hfz10_10 := blk_frozen BK192.out 10; have hfz10_11 := blk_frozen BK192.out 11; have hfz10_12 := blk_frozen BK192.out 12; have hfz10_13 := blk_frozen BK192.out 13) | ((with_reducible refine gate_callee (f := 26) rfl ?_); refine goesL_ (some 11) rfl rfl Try.func26 (by kernel_rfl) rfl #[.agg #[.int .u64 a0_7, .int .u64 a0_8, .int .u64 a0_9, .int .u64 a0_10, .int .u64 a0_11, .int .u64 a0_12, .int .u64 a0_13]] rfl (by (try simp only [List.map_toArray, List.map_cons, List.map_nil]); first | done | rfl | (simp only [List.length_drop, List.length_take]; rfl)) ?_; (with_reducible refine (spec_SlotOk.calls k a0_7 a0_8 a0_9 a0_10 a0_11 a0_12 a0_13 t195 _ A3.out).mono ?_); rintro e w11 ⟨rfl, hb⟩; refine ⟨_, rfl, ?_⟩; have n0_ := Aside0.mk (blk_below (g := gb192) (o := .cells #[.int .u64 a0_0, .int .u64 a0_1, .int .u64 a0_2, .int .u64 a0_3, .int .u64 a0_4, .int .u64 a0_5, .int .u64 a0_6, .int .u64 a0_7, .int .u64 a0_8, .int .u64 a0_9, .int .u64 a0_10, .int .u64 a0_11, .int .u64 a0_12, .int .u64 a0_13] 38 (0, 0)) (by (with_reducible repeat (first | refine blk_drewN ?_ _ | refine blk_drew ?_ | refine blk_alloc ?_ _)); exact BK192.out) hb); have n1_ := Aside0.mk (blk_below (g := gb193) (o := .cells #[.int .i64 0, .int .i64 0, .int .u64 0, .int .u64 0, .int .u64 0, .int .u64 0] 50 (0, 0)) (by (with_reducible repeat (first | refine blk_drewN ?_ _ | refine blk_drew ?_ | refine blk_alloc ?_ _)); exact BK193.out) hb); have n2_ := Aside0.mk (below_step (by repeat (first | (with_reducible first | exact HB.out | apply below_alloc | apply pw_below_drewN | apply below_drew1 | refine below_set ?_ GE192.out | refine below_set ?_ GE193.out) | exact HB.out)) hb); clear BK192; clear BK193; clear HB; have BK192 := n0_; have BK193 := n1_; have HB := n2_; clear n0_ n1_ n2_; (try clear hb); (try clear hb2); (try clear hk); (try clear hi)))
  (try simp only [Act.put, List.setIfInBounds_toArray, List.set_cons_zero, List.set_cons_succ])
  go_cut [25] (fun v25 wc => ∃ (kq : Nat) (x25_3 : Bool), v25 = .bool x25_3 ∧ Aside0 (spec_RecordRead.j0 kq t195 x25_3 a0_0 a0_1 a0_2 a0_3 a0_4 a0_5 a0_6 a0_7 a0_8 a0_9 a0_10 a0_11 a0_12 a0_13 = some (r1, r2, r3, r4, r5, r6, r7)) ∧ Aside0 (kq ≤ k) ∧ Aside0 (wc.heap[gb192]? = some (.cells #[.int .u64 a0_0, .int .u64 a0_1, .int .u64 a0_2, .int .u64 a0_3, .int .u64 a0_4, .int .u64 a0_5, .int .u64 a0_6, .int .u64 a0_7, .int .u64 a0_8, .int .u64 a0_9, .int .u64 a0_10, .int .u64 a0_11, .int .u64 a0_12, .int .u64 a0_13] 38 (0, 0))) ∧ Aside0 (wc.heap[gb193]? = some (.cells #[.int .i64 0, .int .i64 0, .int .u64 0, .int .u64 0, .int .u64 0, .int .u64 0] 50 (0, 0))) ∧ Aside0 (Below w.heap.size w wc))
  case first =>
    have H := HC4.out
    clear HC4
    by_cases c12 : t194 = true
    · subst c12
      have H1 : (if t195 = true then (spec_RecordRead.j0 k t195 (decide (a0_1 ≥ a0_8)) a0_0 a0_1 a0_2 a0_3 a0_4 a0_5 a0_6 a0_7 a0_8 a0_9 a0_10 a0_11 a0_12 a0_13) else (spec_RecordRead.j0 k t195 true a0_0 a0_1 a0_2 a0_3 a0_4 a0_5 a0_6 a0_7 a0_8 a0_9 a0_10 a0_11 a0_12 a0_13)) = some (r1, r2, r3, r4, r5, r6, r7) := by rw [if_pos rfl] at H; exact H
      clear H
      have H := H1
      clear H1
      by_cases c13 : t195 = true
      · subst c13
        have H1 : (spec_RecordRead.j0 k true (decide (a0_1 ≥ a0_8)) a0_0 a0_1 a0_2 a0_3 a0_4 a0_5 a0_6 a0_7 a0_8 a0_9 a0_10 a0_11 a0_12 a0_13) = some (r1, r2, r3, r4, r5, r6, r7) := by rw [if_pos rfl] at H; exact H
        clear H
        have H := H1
        clear H1
        have H' := Aside0.mk H
        clear H
        have hnb14 := NB192_193.out
        have hnc14 := NB193_192.out
        have hcz15_0 : w11.cell? ⟨gb192, 0, none⟩ = some (.int .u64 a0_0) := (blk_cell BK192.out 0).trans rfl
        have hcz15_1 : w11.cell? ⟨gb192, 1, none⟩ = some (.int .u64 a0_1) := (blk_cell BK192.out 1).trans rfl
        have hcz15_2 : w11.cell? ⟨gb192, 2, none⟩ = some (.int .u64 a0_2) := (blk_cell BK192.out 2).trans rfl
        have hcz15_3 : w11.cell? ⟨gb192, 3, none⟩ = some (.int .u64 a0_3) := (blk_cell BK192.out 3).trans rfl
        have hcz15_4 : w11.cell? ⟨gb192, 4, none⟩ = some (.int .u64 a0_4) := (blk_cell BK192.out 4).trans rfl
        have hcz15_5 : w11.cell? ⟨gb192, 5, none⟩ = some (.int .u64 a0_5) := (blk_cell BK192.out 5).trans rfl
        have hcz15_6 : w11.cell? ⟨gb192, 6, none⟩ = some (.int .u64 a0_6) := (blk_cell BK192.out 6).trans rfl
        have hcz15_7 : w11.cell? ⟨gb192, 7, none⟩ = some (.int .u64 a0_7) := (blk_cell BK192.out 7).trans rfl
        have hcz15_8 : w11.cell? ⟨gb192, 8, none⟩ = some (.int .u64 a0_8) := (blk_cell BK192.out 8).trans rfl
        have hcz15_9 : w11.cell? ⟨gb192, 9, none⟩ = some (.int .u64 a0_9) := (blk_cell BK192.out 9).trans rfl
        have hcz15_10 : w11.cell? ⟨gb192, 10, none⟩ = some (.int .u64 a0_10) := (blk_cell BK192.out 10).trans rfl
        have hcz15_11 : w11.cell? ⟨gb192, 11, none⟩ = some (.int .u64 a0_11) := (blk_cell BK192.out 11).trans rfl
        have hcz15_12 : w11.cell? ⟨gb192, 12, none⟩ = some (.int .u64 a0_12) := (blk_cell BK192.out 12).trans rfl
        have hcz15_13 : w11.cell? ⟨gb192, 13, none⟩ = some (.int .u64 a0_13) := (blk_cell BK192.out 13).trans rfl
        have hfz15_0 := blk_frozen BK192.out 0
        have hfz15_1 := blk_frozen BK192.out 1
        have hfz15_2 := blk_frozen BK192.out 2
        have hfz15_3 := blk_frozen BK192.out 3
        have hfz15_4 := blk_frozen BK192.out 4
        have hfz15_5 := blk_frozen BK192.out 5
        have hfz15_6 := blk_frozen BK192.out 6
        have hfz15_7 := blk_frozen BK192.out 7
        have hfz15_8 := blk_frozen BK192.out 8
        have hfz15_9 := blk_frozen BK192.out 9
        have hfz15_10 := blk_frozen BK192.out 10
        have hfz15_11 := blk_frozen BK192.out 11
        have hfz15_12 := blk_frozen BK192.out 12
        have hfz15_13 := blk_frozen BK192.out 13
        go_wp2
        go_meet
        case rel => exact ⟨_, (decide (a0_1 ≥ a0_8)), (by first | rfl | (simp; done) | (simp [*]; done)), H', ⟨by first | omega | exact Nat.le_refl _⟩, ⟨by (with_reducible repeat (first | refine blk_drewN ?_ _ | refine blk_drew ?_ | refine blk_alloc ?_ _)); exact BK192.out⟩, ⟨by (with_reducible repeat (first | refine blk_drewN ?_ _ | refine blk_drew ?_ | refine blk_alloc ?_ _)); exact BK193.out⟩, ⟨by repeat (first | (with_reducible first | exact HB.out | apply below_alloc | apply pw_below_drewN | apply below_drew1 | refine below_set ?_ GE192.out | refine below_set ?_ GE193.out) | exact HB.out)⟩⟩
      · replace c13 := Bool.eq_false_iff.mpr c13
        subst c13
        have H1 : (spec_RecordRead.j0 k false true a0_0 a0_1 a0_2 a0_3 a0_4 a0_5 a0_6 a0_7 a0_8 a0_9 a0_10 a0_11 a0_12 a0_13) = some (r1, r2, r3, r4, r5, r6, r7) := by rw [if_neg (show ¬ (false = true) by decide)] at H; exact H
        clear H
        have H := H1
        clear H1
        have H' := Aside0.mk H
        clear H
        go_wp2
        go_meet
        case rel => exact ⟨_, (true), (by first | rfl | (simp; done) | (simp [*]; done)), H', ⟨by first | omega | exact Nat.le_refl _⟩, ⟨by (with_reducible repeat (first | refine blk_drewN ?_ _ | refine blk_drew ?_ | refine blk_alloc ?_ _)); exact BK192.out⟩, ⟨by (with_reducible repeat (first | refine blk_drewN ?_ _ | refine blk_drew ?_ | refine blk_alloc ?_ _)); exact BK193.out⟩, ⟨by repeat (first | (with_reducible first | exact HB.out | apply below_alloc | apply pw_below_drewN | apply below_drew1 | refine below_set ?_ GE192.out | refine below_set ?_ GE193.out) | exact HB.out)⟩⟩
    · replace c12 := Bool.eq_false_iff.mpr c12
      subst c12
      have H1 : (spec_RecordRead.j0 k t195 false a0_0 a0_1 a0_2 a0_3 a0_4 a0_5 a0_6 a0_7 a0_8 a0_9 a0_10 a0_11 a0_12 a0_13) = some (r1, r2, r3, r4, r5, r6, r7) := by rw [if_neg (show ¬ (false = true) by decide)] at H; exact H
      clear H
      have H := H1
      clear H1
      have H' := Aside0.mk H
      clear H
      go_wp2
      go_meet
      case rel => exact ⟨_, (false), (by first | rfl | (simp; done) | (simp [*]; done)), H', ⟨by first | omega | exact Nat.le_refl _⟩, ⟨by (with_reducible repeat (first | refine blk_drewN ?_ _ | refine blk_drew ?_ | refine blk_alloc ?_ _)); exact BK192.out⟩, ⟨by (with_reducible repeat (first | refine blk_drewN ?_ _ | refine blk_drew ?_ | refine blk_alloc ?_ _)); exact BK193.out⟩, ⟨by repeat (first | (with_reducible first | exact HB.out | apply below_alloc | apply pw_below_drewN | apply below_drew1 | refine below_set ?_ GE192.out | refine below_set ?_ GE193.out) | exact HB.out)⟩⟩
  case rest =>
    clear HC4
    try clear c1
    try clear c2
    try clear p2
    try clear c3
    try clear c7
    try clear c12
    try clear c13
    try clear c14
    try clear hcz10_0
    try clear hcz10_1
    try clear hcz10_10
    try clear hcz10_11
    try clear hcz10_12
    try clear hcz10_13
    try clear hcz10_2
    try clear hcz10_3
    try clear hcz10_4
    try clear hcz10_5
    try clear hcz10_6
    try clear hcz10_7
    try clear hcz10_8
    try clear hcz10_9
    try clear hcz15_0
    try clear hcz15_1
    try clear hcz15_10
    try clear hcz15_11
    try clear hcz15_12
    try clear hcz15_13
    try clear hcz15_2
    try clear hcz15_3
    try clear hcz15_4
    try clear hcz15_5
    try clear hcz15_6
    try clear hcz15_7
    try clear hcz15_8
    try clear hcz15_9
    try clear hcz8_0
    try clear hcz8_1
    try clear hcz8_10
    try clear hcz8_11
    try clear hcz8_12
    try clear hcz8_13
    try clear hcz8_2
    try clear hcz8_3
    try clear hcz8_4
    try clear hcz8_5
    try clear hcz8_6
    try clear hcz8_7
    try clear hcz8_8
    try clear hcz8_9
    try clear hfz10_0
    try clear hfz10_1
    try clear hfz10_10
    try clear hfz10_11
    try clear hfz10_12
    try clear hfz10_13
    try clear hfz10_2
    try clear hfz10_3
    try clear hfz10_4
    try clear hfz10_5
    try clear hfz10_6
    try clear hfz10_7
    try clear hfz10_8
    try clear hfz10_9
    try clear hfz15_0
    try clear hfz15_1
    try clear hfz15_10
    try clear hfz15_11
    try clear hfz15_12
    try clear hfz15_13
    try clear hfz15_2
    try clear hfz15_3
    try clear hfz15_4
    try clear hfz15_5
    try clear hfz15_6
    try clear hfz15_7
    try clear hfz15_8
    try clear hfz15_9
    try clear hfz8_0
    try clear hfz8_1
    try clear hfz8_10
    try clear hfz8_11
    try clear hfz8_12
    try clear hfz8_13
    try clear hfz8_2
    try clear hfz8_3
    try clear hfz8_4
    try clear hfz8_5
    try clear hfz8_6
    try clear hfz8_7
    try clear hfz8_8
    try clear hfz8_9
    obtain ⟨kq, x25_3, rfl, HA, HJ3, BK192, BK193, HB⟩ := hcut
    cases kq with
    | zero => exact absurd HA.out (by simp [spec_RecordRead.j0])
    | succ kj3 =>
      have H := HA.out
      clear HA
      simp only [spec_RecordRead.j0] at H
      by_cases c16 : x25_3 = true
      · subst c16
        have H1 : (some (wrap64 (a0_1), wrap64 (a0_2), a0_3, a0_4, a0_5, a0_6, 1)) = some (r1, r2, r3, r4, r5, r6, r7) := by rw [if_pos rfl] at H; exact H
        clear H
        have H := H1
        clear H1
        simp only [Option.some.injEq, Prod.mk.injEq] at H
        obtain ⟨rfl, rfl, rfl, rfl, rfl, rfl, rfl⟩ := H
        have hnb17 := NB192_193.out
        have hnc17 := NB193_192.out
        have hcz18_0 : wc.cell? ⟨gb192, 0, none⟩ = some (.int .u64 a0_0) := (blk_cell BK192.out 0).trans rfl
        have hcz18_1 : wc.cell? ⟨gb192, 1, none⟩ = some (.int .u64 a0_1) := (blk_cell BK192.out 1).trans rfl
        have hcz18_2 : wc.cell? ⟨gb192, 2, none⟩ = some (.int .u64 a0_2) := (blk_cell BK192.out 2).trans rfl
        have hcz18_3 : wc.cell? ⟨gb192, 3, none⟩ = some (.int .u64 a0_3) := (blk_cell BK192.out 3).trans rfl
        have hcz18_4 : wc.cell? ⟨gb192, 4, none⟩ = some (.int .u64 a0_4) := (blk_cell BK192.out 4).trans rfl
        have hcz18_5 : wc.cell? ⟨gb192, 5, none⟩ = some (.int .u64 a0_5) := (blk_cell BK192.out 5).trans rfl
        have hcz18_6 : wc.cell? ⟨gb192, 6, none⟩ = some (.int .u64 a0_6) := (blk_cell BK192.out 6).trans rfl
        have hcz18_7 : wc.cell? ⟨gb192, 7, none⟩ = some (.int .u64 a0_7) := (blk_cell BK192.out 7).trans rfl
        have hcz18_8 : wc.cell? ⟨gb192, 8, none⟩ = some (.int .u64 a0_8) := (blk_cell BK192.out 8).trans rfl
        have hcz18_9 : wc.cell? ⟨gb192, 9, none⟩ = some (.int .u64 a0_9) := (blk_cell BK192.out 9).trans rfl
        have hcz18_10 : wc.cell? ⟨gb192, 10, none⟩ = some (.int .u64 a0_10) := (blk_cell BK192.out 10).trans rfl
        have hcz18_11 : wc.cell? ⟨gb192, 11, none⟩ = some (.int .u64 a0_11) := (blk_cell BK192.out 11).trans rfl
        have hcz18_12 : wc.cell? ⟨gb192, 12, none⟩ = some (.int .u64 a0_12) := (blk_cell BK192.out 12).trans rfl
        have hcz18_13 : wc.cell? ⟨gb192, 13, none⟩ = some (.int .u64 a0_13) := (blk_cell BK192.out 13).trans rfl
        have hfz18_0 := blk_frozen BK192.out 0
        have hfz18_1 := blk_frozen BK192.out 1
        have hfz18_2 := blk_frozen BK192.out 2
        have hfz18_3 := blk_frozen BK192.out 3
        have hfz18_4 := blk_frozen BK192.out 4
        have hfz18_5 := blk_frozen BK192.out 5
        have hfz18_6 := blk_frozen BK192.out 6
        have hfz18_7 := blk_frozen BK192.out 7
        have hfz18_8 := blk_frozen BK192.out 8
        have hfz18_9 := blk_frozen BK192.out 9
        have hfz18_10 := blk_frozen BK192.out 10
        have hfz18_11 := blk_frozen BK192.out 11
        have hfz18_12 := blk_frozen BK192.out 12
        have hfz18_13 := blk_frozen BK192.out 13
        have hcz19_0 : wc.cell? ⟨gb193, 0, none⟩ = some (.int .i64 0) := (blk_cell BK193.out 0).trans rfl
        have hcz19_1 : wc.cell? ⟨gb193, 1, none⟩ = some (.int .i64 0) := (blk_cell BK193.out 1).trans rfl
        have hcz19_2 : wc.cell? ⟨gb193, 2, none⟩ = some (.int .u64 0) := (blk_cell BK193.out 2).trans rfl
        have hcz19_3 : wc.cell? ⟨gb193, 3, none⟩ = some (.int .u64 0) := (blk_cell BK193.out 3).trans rfl
        have hcz19_4 : wc.cell? ⟨gb193, 4, none⟩ = some (.int .u64 0) := (blk_cell BK193.out 4).trans rfl
        have hcz19_5 : wc.cell? ⟨gb193, 5, none⟩ = some (.int .u64 0) := (blk_cell BK193.out 5).trans rfl
        have hfz19_0 := blk_frozen BK193.out 0
        have hfz19_1 := blk_frozen BK193.out 1
        have hfz19_2 := blk_frozen BK193.out 2
        have hfz19_3 := blk_frozen BK193.out 3
        have hfz19_4 := blk_frozen BK193.out 4
        have hfz19_5 := blk_frozen BK193.out 5
        go_wp2
        refine bodyPost_ret (results_ct rfl _ _ gb193 50 #[.int .i64 (wrap64 (a0_1)), .int .i64 (wrap64 (a0_2)), .int .u64 a0_3, .int .u64 a0_4, .int .u64 a0_5, .int .u64 a0_6] (0, 0) _ rfl ?hblk Try.underlying50 rfl (by kernel_rfl)) rfl ?_
        case hblk => (with_reducible repeat (first | refine blk_drewN ?_ _ | refine blk_drew ?_ | refine blk_alloc ?_ _)); refine blk_put (cs := #[.int .i64 (wrap64 (a0_1)), .int .i64 (wrap64 (a0_2)), .int .u64 a0_3, .int .u64 a0_4, .int .u64 a0_5, .int .u64 0]) ?_ 5 _ rfl; (with_reducible repeat (first | refine blk_drewN ?_ _ | refine blk_drew ?_ | refine blk_alloc ?_ _)); refine blk_put (cs := #[.int .i64 (wrap64 (a0_1)), .int .i64 (wrap64 (a0_2)), .int .u64 a0_3, .int .u64 a0_4, .int .u64 0, .int .u64 0]) ?_ 4 _ rfl; (with_reducible repeat (first | refine blk_drewN ?_ _ | refine blk_drew ?_ | refine blk_alloc ?_ _)); refine blk_put (cs := #[.int .i64 (wrap64 (a0_1)), .int .i64 (wrap64 (a0_2)), .int .u64 a0_3, .int .u64 0, .int .u64 0, .int .u64 0]) ?_ 3 _ rfl; (with_reducible repeat (first | refine blk_drewN ?_ _ | refine blk_drew ?_ | refine blk_alloc ?_ _)); refine blk_put (cs := #[.int .i64 (wrap64 (a0_1)), .int .i64 (wrap64 (a0_2)), .int .u64 0, .int .u64 0, .int .u64 0, .int .u64 0]) ?_ 2 _ rfl; (with_reducible repeat (first | refine blk_drewN ?_ _ | refine blk_drew ?_ | refine blk_alloc ?_ _)); refine blk_put (cs := #[.int .i64 (wrap64 (a0_1)), .int .i64 0, .int .u64 0, .int .u64 0, .int .u64 0, .int .u64 0]) ?_ 1 _ rfl; (with_reducible repeat (first | refine blk_drewN ?_ _ | refine blk_drew ?_ | refine blk_alloc ?_ _)); refine blk_put (cs := #[.int .i64 0, .int .i64 0, .int .u64 0, .int .u64 0, .int .u64 0, .int .u64 0]) ?_ 0 _ rfl; (with_reducible repeat (first | refine blk_drewN ?_ _ | refine blk_drew ?_ | refine blk_alloc ?_ _)); exact BK193.out
        exact ⟨by first | rfl | (simp [errW_none, errW_some] <;> rfl) | (simp [*, errW_none, errW_some] <;> rfl), by repeat (first | (with_reducible first | exact HB.out | apply below_alloc | apply pw_below_drewN | apply below_drew1 | refine below_set ?_ GE192.out | refine below_set ?_ GE193.out) | exact HB.out)⟩
      · replace c16 := Bool.eq_false_iff.mpr c16
        subst c16
        have H1 : (if t195 = true then (some (wrap64 (a0_8), wrap64 (a0_9), a0_10, a0_11, a0_12, a0_13, 2)) else (some (0, 0, 0, 0, 0, 0, 0))) = some (r1, r2, r3, r4, r5, r6, r7) := by rw [if_neg (show ¬ (false = true) by decide)] at H; exact H
        clear H
        have H := H1
        clear H1
        by_cases c20 : t195 = true
        · subst c20
          have H1 : (some (wrap64 (a0_8), wrap64 (a0_9), a0_10, a0_11, a0_12, a0_13, 2)) = some (r1, r2, r3, r4, r5, r6, r7) := by rw [if_pos rfl] at H; exact H
          clear H
          have H := H1
          clear H1
          simp only [Option.some.injEq, Prod.mk.injEq] at H
          obtain ⟨rfl, rfl, rfl, rfl, rfl, rfl, rfl⟩ := H
          have hnb21 := NB192_193.out
          have hnc21 := NB193_192.out
          have hcz22_0 : wc.cell? ⟨gb192, 0, none⟩ = some (.int .u64 a0_0) := (blk_cell BK192.out 0).trans rfl
          have hcz22_1 : wc.cell? ⟨gb192, 1, none⟩ = some (.int .u64 a0_1) := (blk_cell BK192.out 1).trans rfl
          have hcz22_2 : wc.cell? ⟨gb192, 2, none⟩ = some (.int .u64 a0_2) := (blk_cell BK192.out 2).trans rfl
          have hcz22_3 : wc.cell? ⟨gb192, 3, none⟩ = some (.int .u64 a0_3) := (blk_cell BK192.out 3).trans rfl
          have hcz22_4 : wc.cell? ⟨gb192, 4, none⟩ = some (.int .u64 a0_4) := (blk_cell BK192.out 4).trans rfl
          have hcz22_5 : wc.cell? ⟨gb192, 5, none⟩ = some (.int .u64 a0_5) := (blk_cell BK192.out 5).trans rfl
          have hcz22_6 : wc.cell? ⟨gb192, 6, none⟩ = some (.int .u64 a0_6) := (blk_cell BK192.out 6).trans rfl
          have hcz22_7 : wc.cell? ⟨gb192, 7, none⟩ = some (.int .u64 a0_7) := (blk_cell BK192.out 7).trans rfl
          have hcz22_8 : wc.cell? ⟨gb192, 8, none⟩ = some (.int .u64 a0_8) := (blk_cell BK192.out 8).trans rfl
          have hcz22_9 : wc.cell? ⟨gb192, 9, none⟩ = some (.int .u64 a0_9) := (blk_cell BK192.out 9).trans rfl
          have hcz22_10 : wc.cell? ⟨gb192, 10, none⟩ = some (.int .u64 a0_10) := (blk_cell BK192.out 10).trans rfl
          have hcz22_11 : wc.cell? ⟨gb192, 11, none⟩ = some (.int .u64 a0_11) := (blk_cell BK192.out 11).trans rfl
          have hcz22_12 : wc.cell? ⟨gb192, 12, none⟩ = some (.int .u64 a0_12) := (blk_cell BK192.out 12).trans rfl
          have hcz22_13 : wc.cell? ⟨gb192, 13, none⟩ = some (.int .u64 a0_13) := (blk_cell BK192.out 13).trans rfl
          have hfz22_0 := blk_frozen BK192.out 0
          have hfz22_1 := blk_frozen BK192.out 1
          have hfz22_2 := blk_frozen BK192.out 2
          have hfz22_3 := blk_frozen BK192.out 3
          have hfz22_4 := blk_frozen BK192.out 4
          have hfz22_5 := blk_frozen BK192.out 5
          have hfz22_6 := blk_frozen BK192.out 6
          have hfz22_7 := blk_frozen BK192.out 7
          have hfz22_8 := blk_frozen BK192.out 8
          have hfz22_9 := blk_frozen BK192.out 9
          have hfz22_10 := blk_frozen BK192.out 10
          have hfz22_11 := blk_frozen BK192.out 11
          have hfz22_12 := blk_frozen BK192.out 12
          have hfz22_13 := blk_frozen BK192.out 13
          have hcz23_0 : wc.cell? ⟨gb193, 0, none⟩ = some (.int .i64 0) := (blk_cell BK193.out 0).trans rfl
          have hcz23_1 : wc.cell? ⟨gb193, 1, none⟩ = some (.int .i64 0) := (blk_cell BK193.out 1).trans rfl
          have hcz23_2 : wc.cell? ⟨gb193, 2, none⟩ = some (.int .u64 0) := (blk_cell BK193.out 2).trans rfl
          have hcz23_3 : wc.cell? ⟨gb193, 3, none⟩ = some (.int .u64 0) := (blk_cell BK193.out 3).trans rfl
          have hcz23_4 : wc.cell? ⟨gb193, 4, none⟩ = some (.int .u64 0) := (blk_cell BK193.out 4).trans rfl
          have hcz23_5 : wc.cell? ⟨gb193, 5, none⟩ = some (.int .u64 0) := (blk_cell BK193.out 5).trans rfl
          have hfz23_0 := blk_frozen BK193.out 0
          have hfz23_1 := blk_frozen BK193.out 1
          have hfz23_2 := blk_frozen BK193.out 2
          have hfz23_3 := blk_frozen BK193.out 3
          have hfz23_4 := blk_frozen BK193.out 4
          have hfz23_5 := blk_frozen BK193.out 5
          go_wp2
          refine bodyPost_ret (results_ct rfl _ _ gb193 50 #[.int .i64 (wrap64 (a0_8)), .int .i64 (wrap64 (a0_9)), .int .u64 a0_10, .int .u64 a0_11, .int .u64 a0_12, .int .u64 a0_13] (0, 0) _ rfl ?hblk Try.underlying50 rfl (by kernel_rfl)) rfl ?_
          case hblk => (with_reducible repeat (first | refine blk_drewN ?_ _ | refine blk_drew ?_ | refine blk_alloc ?_ _)); refine blk_put (cs := #[.int .i64 (wrap64 (a0_8)), .int .i64 (wrap64 (a0_9)), .int .u64 a0_10, .int .u64 a0_11, .int .u64 a0_12, .int .u64 0]) ?_ 5 _ rfl; (with_reducible repeat (first | refine blk_drewN ?_ _ | refine blk_drew ?_ | refine blk_alloc ?_ _)); refine blk_put (cs := #[.int .i64 (wrap64 (a0_8)), .int .i64 (wrap64 (a0_9)), .int .u64 a0_10, .int .u64 a0_11, .int .u64 0, .int .u64 0]) ?_ 4 _ rfl; (with_reducible repeat (first | refine blk_drewN ?_ _ | refine blk_drew ?_ | refine blk_alloc ?_ _)); refine blk_put (cs := #[.int .i64 (wrap64 (a0_8)), .int .i64 (wrap64 (a0_9)), .int .u64 a0_10, .int .u64 0, .int .u64 0, .int .u64 0]) ?_ 3 _ rfl; (with_reducible repeat (first | refine blk_drewN ?_ _ | refine blk_drew ?_ | refine blk_alloc ?_ _)); refine blk_put (cs := #[.int .i64 (wrap64 (a0_8)), .int .i64 (wrap64 (a0_9)), .int .u64 0, .int .u64 0, .int .u64 0, .int .u64 0]) ?_ 2 _ rfl; (with_reducible repeat (first | refine blk_drewN ?_ _ | refine blk_drew ?_ | refine blk_alloc ?_ _)); refine blk_put (cs := #[.int .i64 (wrap64 (a0_8)), .int .i64 0, .int .u64 0, .int .u64 0, .int .u64 0, .int .u64 0]) ?_ 1 _ rfl; (with_reducible repeat (first | refine blk_drewN ?_ _ | refine blk_drew ?_ | refine blk_alloc ?_ _)); refine blk_put (cs := #[.int .i64 0, .int .i64 0, .int .u64 0, .int .u64 0, .int .u64 0, .int .u64 0]) ?_ 0 _ rfl; (with_reducible repeat (first | refine blk_drewN ?_ _ | refine blk_drew ?_ | refine blk_alloc ?_ _)); exact BK193.out
          exact ⟨by first | rfl | (simp [errW_none, errW_some] <;> rfl) | (simp [*, errW_none, errW_some] <;> rfl), by repeat (first | (with_reducible first | exact HB.out | apply below_alloc | apply pw_below_drewN | apply below_drew1 | refine below_set ?_ GE192.out | refine below_set ?_ GE193.out) | exact HB.out)⟩
        · replace c20 := Bool.eq_false_iff.mpr c20
          subst c20
          have H1 : (some (0, 0, 0, 0, 0, 0, 0)) = some (r1, r2, r3, r4, r5, r6, r7) := by rw [if_neg (show ¬ (false = true) by decide)] at H; exact H
          clear H
          have H := H1
          clear H1
          simp only [Option.some.injEq, Prod.mk.injEq] at H
          obtain ⟨rfl, rfl, rfl, rfl, rfl, rfl, rfl⟩ := H
          have hnb24 := NB193_192.out
          have hnc24 := NB192_193.out
          have hcz25_0 : wc.cell? ⟨gb193, 0, none⟩ = some (.int .i64 0) := (blk_cell BK193.out 0).trans rfl
          have hcz25_1 : wc.cell? ⟨gb193, 1, none⟩ = some (.int .i64 0) := (blk_cell BK193.out 1).trans rfl
          have hcz25_2 : wc.cell? ⟨gb193, 2, none⟩ = some (.int .u64 0) := (blk_cell BK193.out 2).trans rfl
          have hcz25_3 : wc.cell? ⟨gb193, 3, none⟩ = some (.int .u64 0) := (blk_cell BK193.out 3).trans rfl
          have hcz25_4 : wc.cell? ⟨gb193, 4, none⟩ = some (.int .u64 0) := (blk_cell BK193.out 4).trans rfl
          have hcz25_5 : wc.cell? ⟨gb193, 5, none⟩ = some (.int .u64 0) := (blk_cell BK193.out 5).trans rfl
          have hfz25_0 := blk_frozen BK193.out 0
          have hfz25_1 := blk_frozen BK193.out 1
          have hfz25_2 := blk_frozen BK193.out 2
          have hfz25_3 := blk_frozen BK193.out 3
          have hfz25_4 := blk_frozen BK193.out 4
          have hfz25_5 := blk_frozen BK193.out 5
          go_wp2
          refine bodyPost_ret (results_ct rfl _ _ gb193 50 #[.int .i64 0, .int .i64 0, .int .u64 0, .int .u64 0, .int .u64 0, .int .u64 0] (0, 0) _ rfl ?hblk Try.underlying50 rfl (by kernel_rfl)) rfl ?_
          case hblk => (with_reducible repeat (first | refine blk_drewN ?_ _ | refine blk_drew ?_ | refine blk_alloc ?_ _)); refine blk_put (cs := #[.int .i64 0, .int .i64 0, .int .u64 0, .int .u64 0, .int .u64 0, .int .u64 0]) ?_ 5 _ rfl; (with_reducible repeat (first | refine blk_drewN ?_ _ | refine blk_drew ?_ | refine blk_alloc ?_ _)); refine blk_put (cs := #[.int .i64 0, .int .i64 0, .int .u64 0, .int .u64 0, .int .u64 0, .int .u64 0]) ?_ 4 _ rfl; (with_reducible repeat (first | refine blk_drewN ?_ _ | refine blk_drew ?_ | refine blk_alloc ?_ _)); refine blk_put (cs := #[.int .i64 0, .int .i64 0, .int .u64 0, .int .u64 0, .int .u64 0, .int .u64 0]) ?_ 3 _ rfl; (with_reducible repeat (first | refine blk_drewN ?_ _ | refine blk_drew ?_ | refine blk_alloc ?_ _)); refine blk_put (cs := #[.int .i64 0, .int .i64 0, .int .u64 0, .int .u64 0, .int .u64 0, .int .u64 0]) ?_ 2 _ rfl; (with_reducible repeat (first | refine blk_drewN ?_ _ | refine blk_drew ?_ | refine blk_alloc ?_ _)); refine blk_put (cs := #[.int .i64 0, .int .i64 0, .int .u64 0, .int .u64 0, .int .u64 0, .int .u64 0]) ?_ 1 _ rfl; (with_reducible repeat (first | refine blk_drewN ?_ _ | refine blk_drew ?_ | refine blk_alloc ?_ _)); refine blk_put (cs := #[.int .i64 0, .int .i64 0, .int .u64 0, .int .u64 0, .int .u64 0, .int .u64 0]) ?_ 0 _ rfl; (with_reducible repeat (first | refine blk_drewN ?_ _ | refine blk_drew ?_ | refine blk_alloc ?_ _)); exact BK193.out
          exact ⟨by first | rfl | (simp [errW_none, errW_some] <;> rfl) | (simp [*, errW_none, errW_some] <;> rfl), by repeat (first | (with_reducible first | exact HB.out | apply below_alloc | apply pw_below_drewN | apply below_drew1 | refine below_set ?_ GE192.out | refine below_set ?_ GE193.out) | exact HB.out)⟩

end Go.Proofs.Ytcgfgodpiobcfaa.S
namespace Go.Proofs.Ytcgfgodpiobcfaa.S
open Go.RowKit Go.Proofs.YtcgfgodpiobcfaaW.PrintWords Go.Proofs.YtcgfgodpiobcfaaW.PrintLast Go.Proofs.YtcgfgodpiobcfaaW.PrintMore
attribute [local go_sem] max2_int min2_int max_two min_two max_three min_three max_four min_four   -- for this text's walks alone
set_option linter.unusedVariables false
set_option linter.unusedSimpArgs false

/-! ### words: function 55 -/
def wordPtrs (g o : Nat) : Array Value := #[.pointer (some ⟨g, o, none⟩), .pointer (some ⟨g, o + 1, none⟩), .pointer (some ⟨g, o + 2, none⟩), .pointer (some ⟨g, o + 3, none⟩), .pointer (some ⟨g, o + 3 + 1, none⟩), .pointer (some ⟨g, o + 3 + 2, none⟩), .pointer (some ⟨g, o + 3 + 3, none⟩)]
set_option maxHeartbeats 8000000 in
set_option maxRecDepth 100000 in
theorem words_calls (g o : Nat) (w : World) :
    Calls Try.prog 55 #[.pointer (some ⟨g, o, none⟩)] w fun e w' => ∃ gw, e = .returned (.slice (some ⟨gw, 0, none⟩) 7 7) ∧ w'.heap[gw]? = some (.cells (wordPtrs g o) 87 (0, 0)) ∧ w.heap.size ≤ gw ∧ Below w.heap.size w w' := by
  go_enter Try.func55, Try.ntmps55
  go_wp2
  go_still_tail 25, (by kernel_rfl)
  change wpList _ _ _ _ _ w.drew
  obtain ⟨w2, hw2⟩ : ∃ w2, w2 = w.drew := ⟨_, rfl⟩
  rw [← hw2]
  have hs : w2.heap.size = w.heap.size := by rw [hw2]; rfl
  have hb : Below w.heap.size w w2 := by rw [hw2]; exact below_drew1 (Below.refl _ _)
  have HS := Aside0.mk hs
  have HB := Aside0.mk hb
  clear hw2 hs hb
  go_wp2
  go_ret
  refine ⟨w2.heap.size, rfl, ?_, by rw [HS.out]; exact Nat.le_refl _, below_alloc HB.out _⟩
  exact blk_new w2 _

end Go.Proofs.Ytcgfgodpiobcfaa.S
