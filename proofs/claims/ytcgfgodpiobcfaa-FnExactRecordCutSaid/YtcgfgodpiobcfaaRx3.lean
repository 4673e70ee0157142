/- The walk of functions of the given program: what each computes, as a Lean function, and that the code comes to it. Written by a program of this session's. No condition but each theorem's own. -/
import Derived.Test.YtcgfgodpiobcfaaRD
namespace Go.Proofs.Ytcgfgodpiobcfaa.R
open Go.RowKit Go.Proofs.YtcgfgodpiobcfaaW.PrintWords Go.Proofs.YtcgfgodpiobcfaaW.PrintLast Go.Proofs.YtcgfgodpiobcfaaW.PrintMore
attribute [local go_sem] max2_int min2_int max_two min_two max_three min_three max_four min_four   -- for this text's walks alone
set_option linter.unusedVariables false
set_option linter.unusedSimpArgs false

/-! ### spec_l7Put: function 58 -/
set_option maxHeartbeats 8000000 in
set_option maxRecDepth 100000 in
theorem spec_l7Put.calls (k : Nat) (a0_0 : Int) (a0_1 : Int) (a0_2 : Int) (a0_3 : Int) (a0_4 : Int) (a0_5 : Int) (a0_6 : Int) (a1 : Int) (a2 : Int) (r1 : Int) (r2 : Int) (r3 : Int) (r4 : Int) (r5 : Int) (r6 : Int) (r7 : Int) (w : World) (h : spec_l7Put.f k a0_0 a0_1 a0_2 a0_3 a0_4 a0_5 a0_6 a1 a2 = some (r1, r2, r3, r4, r5, r6, r7)) :
    Calls Try.prog 58 #[.agg #[.int .u64 a0_0, .int .u64 a0_1, .int .u64 a0_2, .int .u64 a0_3, .int .u64 a0_4, .int .u64 a0_5, .int .u64 a0_6], .int .i64 a1, .int .u64 a2] w fun e w' => e = .returned (.agg #[.int .u64 r1, .int .u64 r2, .int .u64 r3, .int .u64 r4, .int .u64 r5, .int .u64 r6, .int .u64 r7]) ∧ Below w.heap.size w w' := by
  have hu30 := Try.underlying30
  have HB := Aside0.mk (Below.refl w.heap.size w)
  have H : (if a1 = 0 then (spec_l7Put.j0 k a1 a2 a2 a0_1 a0_2 a0_3 a0_4 a0_5 a0_6) else (spec_l7Put.j0 k a1 a2 a0_0 a0_1 a0_2 a0_3 a0_4 a0_5 a0_6)) = some (r1, r2, r3, r4, r5, r6, r7) := h
  clear h
  have HC4 := Aside0.mk H
  clear H
  go_enter Try.func58, Try.ntmps58
  go_upto_if 8 with (first | ((with_reducible refine gate_dst (N := 3) rfl ?_); refine box_event ?hg (N := 3) ?hd (cs := #[.int .u64 a0_0, .int .u64 a0_1, .int .u64 a0_2, .int .u64 a0_3, .int .u64 a0_4, .int .u64 a0_5, .int .u64 a0_6]) (t := 30) ?hr ?_; (case hd => rfl); (case hg => rfl); (case hr => first | (go_simp; done) | (go_simp; rfl)); intro gb111 hg w5 hbox hb; have n0_ := Aside0.mk (below_step (by repeat (first | (with_reducible first | exact HB.out | apply below_alloc | apply pw_below_drewN | apply below_drew1) | exact HB.out)) hb); have n1_ := Aside0.mk (hbox); have n2_ := Aside0.mk ((by rw [hg]; exact (below_size (by repeat (first | (with_reducible first | exact HB.out | apply below_alloc | apply pw_below_drewN | apply below_drew1) | exact HB.out))) : w.heap.size ≤ gb111)); have n3_ := Aside0.mk ((by rw [hg]; exact (below_size (by repeat (first | (with_reducible first | exact HB.out | apply below_alloc | apply pw_below_drewN | apply below_drew1) | exact HB.out))) : w.heap.size ≤ gb111)); clear HB; have HB := n0_; have BK111 := n1_; have GW111 := n2_; have GE111 := n3_; clear n0_ n1_ n2_ n3_; clear hb hbox hg) | ((with_reducible refine gate_dst (N := 6) rfl ?_); refine box_event ?hg (N := 6) ?hd (cs := #[.int .u64 0, .int .u64 0, .int .u64 0, .int .u64 0, .int .u64 0, .int .u64 0, .int .u64 0]) (t := 30) ?hr ?_; (case hd => rfl); (case hg => rfl); (case hr => first | (go_simp; done) | (go_simp; rfl)); intro gb112 hg w6 hbox hb; have n0_ := Aside0.mk (blk_below (g := gb111) (o := .cells #[.int .u64 a0_0, .int .u64 a0_1, .int .u64 a0_2, .int .u64 a0_3, .int .u64 a0_4, .int .u64 a0_5, .int .u64 a0_6] 30 (0, 0)) (by (with_reducible repeat (first | refine blk_drewN ?_ _ | refine blk_drew ?_ | refine blk_alloc ?_ _)); exact BK111.out) hb); have n1_ := Aside0.mk (below_step (by repeat (first | (with_reducible first | exact HB.out | apply below_alloc | apply pw_below_drewN | apply below_drew1 | refine below_set ?_ GE111.out) | exact HB.out)) hb); have n2_ := Aside0.mk (hbox); have n3_ := Aside0.mk ((by rw [hg]; exact (below_size (by repeat (first | (with_reducible first | exact HB.out | apply below_alloc | apply pw_below_drewN | apply below_drew1 | refine below_set ?_ GE111.out) | exact HB.out))) : w.heap.size ≤ gb112)); have n4_ := Aside0.mk ((by rw [hg]; exact (below_size (by repeat (first | (with_reducible first | exact HB.out | apply below_alloc | apply pw_below_drewN | apply below_drew1 | refine below_set ?_ GE111.out) | exact HB.out))) : w.heap.size ≤ gb112)); have n5_ := Aside0.mk ((by rw [hg]; exact Nat.ne_of_lt (blk_lt (g := gb111) (o := .cells #[.int .u64 a0_0, .int .u64 a0_1, .int .u64 a0_2, .int .u64 a0_3, .int .u64 a0_4, .int .u64 a0_5, .int .u64 a0_6] 30 (0, 0)) (by (with_reducible repeat (first | refine blk_drewN ?_ _ | refine blk_drew ?_ | refine blk_alloc ?_ _)); exact BK111.out)) : gb111 ≠ gb112)); have n6_ := Aside0.mk ((by rw [hg]; exact Nat.ne_of_gt (blk_lt (g := gb111) (o := .cells #[.int .u64 a0_0, .int .u64 a0_1, .int .u64 a0_2, .int .u64 a0_3, .int .u64 a0_4, .int .u64 a0_5, .int .u64 a0_6] 30 (0, 0)) (by (with_reducible repeat (first | refine blk_drewN ?_ _ | refine blk_drew ?_ | refine blk_alloc ?_ _)); exact BK111.out)) : gb112 ≠ gb111)); clear BK111; clear HB; have BK111 := n0_; have HB := n1_; have BK112 := n2_; have GW112 := n3_; have GE112 := n4_; have NB111_112 := n5_; have NB112_111 := n6_; clear n0_ n1_ n2_ n3_ n4_ n5_ n6_; clear hb hbox hg))
  (try simp only [Act.put, List.setIfInBounds_toArray, List.set_cons_zero, List.set_cons_succ])
  go_cut [] (fun wc => ∃ (kq : Nat) (x112000_3 : Int), Aside0 (spec_l7Put.j0 kq a1 a2 x112000_3 a0_1 a0_2 a0_3 a0_4 a0_5 a0_6 = some (r1, r2, r3, r4, r5, r6, r7)) ∧ Aside0 (kq ≤ k) ∧ Aside0 (wc.heap[gb111]? = some (.cells #[.int .u64 x112000_3, .int .u64 a0_1, .int .u64 a0_2, .int .u64 a0_3, .int .u64 a0_4, .int .u64 a0_5, .int .u64 a0_6] 30 (0, 0))) ∧ Aside0 (wc.heap[gb112]? = some (.cells #[.int .u64 0, .int .u64 0, .int .u64 0, .int .u64 0, .int .u64 0, .int .u64 0, .int .u64 0] 30 (0, 0))) ∧ Aside0 (Below w.heap.size w wc))
  case first =>
    have H := HC4.out
    clear HC4
    by_cases c7 : a1 = 0
    · rw [if_pos c7] at H
      have c7b0 : (a1 == 0) = true := beq_iff_eq.mpr c7
      have c7b1 : (a1 != 0) = false := bne_eq_false_iff_eq.mpr c7
      clear c7
      (first | rw [c7b0] | (simp only [i64_w, i32_w]; rw [c7b0]) | skip)
      have H' := Aside0.mk H
      clear H
      have hnb8 := NB111_112.out
      have hnc8 := NB112_111.out
      have hcz9_0 : w6.cell? ⟨gb111, 0, none⟩ = some (.int .u64 a0_0) := (blk_cell BK111.out 0).trans rfl
      have hcz9_1 : w6.cell? ⟨gb111, 1, none⟩ = some (.int .u64 a0_1) := (blk_cell BK111.out 1).trans rfl
      have hcz9_2 : w6.cell? ⟨gb111, 2, none⟩ = some (.int .u64 a0_2) := (blk_cell BK111.out 2).trans rfl
      have hcz9_3 : w6.cell? ⟨gb111, 3, none⟩ = some (.int .u64 a0_3) := (blk_cell BK111.out 3).trans rfl
      have hcz9_4 : w6.cell? ⟨gb111, 4, none⟩ = some (.int .u64 a0_4) := (blk_cell BK111.out 4).trans rfl
      have hcz9_5 : w6.cell? ⟨gb111, 5, none⟩ = some (.int .u64 a0_5) := (blk_cell BK111.out 5).trans rfl
      have hcz9_6 : w6.cell? ⟨gb111, 6, none⟩ = some (.int .u64 a0_6) := (blk_cell BK111.out 6).trans rfl
      have hfz9_0 := blk_frozen BK111.out 0
      have hfz9_1 := blk_frozen BK111.out 1
      have hfz9_2 := blk_frozen BK111.out 2
      have hfz9_3 := blk_frozen BK111.out 3
      have hfz9_4 := blk_frozen BK111.out 4
      have hfz9_5 := blk_frozen BK111.out 5
      have hfz9_6 := blk_frozen BK111.out 6
      go_wp2
      go_meet
      case rel => exact ⟨_, (a2), H', ⟨by first | omega | exact Nat.le_refl _⟩, ⟨by (with_reducible repeat (first | refine blk_drewN ?_ _ | refine blk_drew ?_ | refine blk_alloc ?_ _)); refine blk_put (cs := #[.int .u64 a0_0, .int .u64 a0_1, .int .u64 a0_2, .int .u64 a0_3, .int .u64 a0_4, .int .u64 a0_5, .int .u64 a0_6]) ?_ 0 _ rfl; (with_reducible repeat (first | refine blk_drewN ?_ _ | refine blk_drew ?_ | refine blk_alloc ?_ _)); exact BK111.out⟩, ⟨by (with_reducible repeat (first | refine blk_drewN ?_ _ | refine blk_drew ?_ | refine blk_alloc ?_ _)); refine blk_far ?_ NB112_111.out _; (with_reducible repeat (first | refine blk_drewN ?_ _ | refine blk_drew ?_ | refine blk_alloc ?_ _)); exact BK112.out⟩, ⟨by repeat (first | (with_reducible first | exact HB.out | apply below_alloc | apply pw_below_drewN | apply below_drew1 | refine below_set ?_ GE111.out | refine below_set ?_ GE112.out) | exact HB.out)⟩⟩
    · rw [if_neg c7] at H
      have c7b0 : (a1 == 0) = false := beq_eq_false_iff_ne.mpr c7
      have c7b1 : (a1 != 0) = true := bne_iff_ne.mpr c7
      (first | rw [c7b0] | (simp only [i64_w, i32_w]; rw [c7b0]) | skip)
      have H' := Aside0.mk H
      clear H
      go_wp2
      go_meet
      case rel => exact ⟨_, (a0_0), H', ⟨by first | omega | exact Nat.le_refl _⟩, ⟨by (with_reducible repeat (first | refine blk_drewN ?_ _ | refine blk_drew ?_ | refine blk_alloc ?_ _)); exact BK111.out⟩, ⟨by (with_reducible repeat (first | refine blk_drewN ?_ _ | refine blk_drew ?_ | refine blk_alloc ?_ _)); exact BK112.out⟩, ⟨by repeat (first | (with_reducible first | exact HB.out | apply below_alloc | apply pw_below_drewN | apply below_drew1 | refine below_set ?_ GE111.out | refine below_set ?_ GE112.out) | exact HB.out)⟩⟩
  case rest =>
    clear HC4
    try clear p2
    try clear c5
    try clear c7
    try clear c7b0
    try clear c7b1
    try clear c8
    try clear hcz9_0
    try clear hcz9_1
    try clear hcz9_2
    try clear hcz9_3
    try clear hcz9_4
    try clear hcz9_5
    try clear hcz9_6
    try clear hfz9_0
    try clear hfz9_1
    try clear hfz9_2
    try clear hfz9_3
    try clear hfz9_4
    try clear hfz9_5
    try clear hfz9_6
    obtain ⟨kq, x112000_3, HA, HJ3, BK111, BK112, HB⟩ := hcut
    cases kq with
    | zero => exact absurd HA.out (by simp [spec_l7Put.j0])
    | succ kj3 =>
      have H := HA.out
      clear HA
      simp only [spec_l7Put.j0] at H
      have HC10 := Aside0.mk H
      clear H
      go_upto_if 12 with (fail)
      go_cut [] (fun wc => ∃ (kq : Nat) (x112001_9 : Int), Aside0 (spec_l7Put.j1 kq a1 a2 x112000_3 x112001_9 a0_2 a0_3 a0_4 a0_5 a0_6 = some (r1, r2, r3, r4, r5, r6, r7)) ∧ Aside0 (kq ≤ kj3) ∧ Aside0 (wc.heap[gb111]? = some (.cells #[.int .u64 x112000_3, .int .u64 x112001_9, .int .u64 a0_2, .int .u64 a0_3, .int .u64 a0_4, .int .u64 a0_5, .int .u64 a0_6] 30 (0, 0))) ∧ Aside0 (wc.heap[gb112]? = some (.cells #[.int .u64 0, .int .u64 0, .int .u64 0, .int .u64 0, .int .u64 0, .int .u64 0, .int .u64 0] 30 (0, 0))) ∧ Aside0 (Below w.heap.size w wc))
      case first =>
        have H := HC10.out
        clear HC10
        by_cases c11 : a1 = 1
        · rw [if_pos c11] at H
          have c11b0 : (a1 == 1) = true := beq_iff_eq.mpr c11
          have c11b1 : (a1 != 1) = false := bne_eq_false_iff_eq.mpr c11
          clear c11
          (first | rw [c11b0] | (simp only [i64_w, i32_w]; rw [c11b0]) | skip)
          have H' := Aside0.mk H
          clear H
          have hnb12 := NB111_112.out
          have hnc12 := NB112_111.out
          have hcz13_0 : wc.cell? ⟨gb111, 0, none⟩ = some (.int .u64 x112000_3) := (blk_cell BK111.out 0).trans rfl
          have hcz13_1 : wc.cell? ⟨gb111, 1, none⟩ = some (.int .u64 a0_1) := (blk_cell BK111.out 1).trans rfl
          have hcz13_2 : wc.cell? ⟨gb111, 2, none⟩ = some (.int .u64 a0_2) := (blk_cell BK111.out 2).trans rfl
          have hcz13_3 : wc.cell? ⟨gb111, 3, none⟩ = some (.int .u64 a0_3) := (blk_cell BK111.out 3).trans rfl
          have hcz13_4 : wc.cell? ⟨gb111, 4, none⟩ = some (.int .u64 a0_4) := (blk_cell BK111.out 4).trans rfl
          have hcz13_5 : wc.cell? ⟨gb111, 5, none⟩ = some (.int .u64 a0_5) := (blk_cell BK111.out 5).trans rfl
          have hcz13_6 : wc.cell? ⟨gb111, 6, none⟩ = some (.int .u64 a0_6) := (blk_cell BK111.out 6).trans rfl
          have hfz13_0 := blk_frozen BK111.out 0
          have hfz13_1 := blk_frozen BK111.out 1
          have hfz13_2 := blk_frozen BK111.out 2
          have hfz13_3 := blk_frozen BK111.out 3
          have hfz13_4 := blk_frozen BK111.out 4
          have hfz13_5 := blk_frozen BK111.out 5
          have hfz13_6 := blk_frozen BK111.out 6
          go_wp2
          go_meet
          case rel => exact ⟨_, (a2), H', ⟨by have := HJ3.out; first | omega | exact Nat.le_refl _⟩, ⟨by (with_reducible repeat (first | refine blk_drewN ?_ _ | refine blk_drew ?_ | refine blk_alloc ?_ _)); refine blk_put (cs := #[.int .u64 x112000_3, .int .u64 a0_1, .int .u64 a0_2, .int .u64 a0_3, .int .u64 a0_4, .int .u64 a0_5, .int .u64 a0_6]) ?_ 1 _ rfl; (with_reducible repeat (first | refine blk_drewN ?_ _ | refine blk_drew ?_ | refine blk_alloc ?_ _)); exact BK111.out⟩, ⟨by (with_reducible repeat (first | refine blk_drewN ?_ _ | refine blk_drew ?_ | refine blk_alloc ?_ _)); refine blk_far ?_ NB112_111.out _; (with_reducible repeat (first | refine blk_drewN ?_ _ | refine blk_drew ?_ | refine blk_alloc ?_ _)); exact BK112.out⟩, ⟨by repeat (first | (with_reducible first | exact HB.out | apply below_alloc | apply pw_below_drewN | apply below_drew1 | refine below_set ?_ GE111.out | refine below_set ?_ GE112.out) | exact HB.out)⟩⟩
        · rw [if_neg c11] at H
          have c11b0 : (a1 == 1) = false := beq_eq_false_iff_ne.mpr c11
          have c11b1 : (a1 != 1) = true := bne_iff_ne.mpr c11
          (first | rw [c11b0] | (simp only [i64_w, i32_w]; rw [c11b0]) | skip)
          have H' := Aside0.mk H
          clear H
          go_wp2
          go_meet
          case rel => exact ⟨_, (a0_1), H', ⟨by have := HJ3.out; first | omega | exact Nat.le_refl _⟩, ⟨by (with_reducible repeat (first | refine blk_drewN ?_ _ | refine blk_drew ?_ | refine blk_alloc ?_ _)); exact BK111.out⟩, ⟨by (with_reducible repeat (first | refine blk_drewN ?_ _ | refine blk_drew ?_ | refine blk_alloc ?_ _)); exact BK112.out⟩, ⟨by repeat (first | (with_reducible first | exact HB.out | apply below_alloc | apply pw_below_drewN | apply below_drew1 | refine below_set ?_ GE111.out | refine below_set ?_ GE112.out) | exact HB.out)⟩⟩
      case rest =>
        clear HC10
        try clear c1
        try clear p2
        try clear c5
        try clear c7
        try clear c7b0
        try clear c7b1
        try clear c8
        try clear c11
        try clear c11b0
        try clear c11b1
        try clear c12
        try clear hcz13_0
        try clear hcz13_1
        try clear hcz13_2
        try clear hcz13_3
        try clear hcz13_4
        try clear hcz13_5
        try clear hcz13_6
        try clear hcz9_0
        try clear hcz9_1
        try clear hcz9_2
        try clear hcz9_3
        try clear hcz9_4
        try clear hcz9_5
        try clear hcz9_6
        try clear hfz13_0
        try clear hfz13_1
        try clear hfz13_2
        try clear hfz13_3
        try clear hfz13_4
        try clear hfz13_5
        try clear hfz13_6
        try clear hfz9_0
        try clear hfz9_1
        try clear hfz9_2
        try clear hfz9_3
        try clear hfz9_4
        try clear hfz9_5
        try clear hfz9_6
        try clear p2
        obtain ⟨kq, x112001_9, HA, HJ9, BK111, BK112, HB⟩ := hcut
        cases kq with
        | zero => exact absurd HA.out (by simp [spec_l7Put.j1])
        | succ kj9 =>
          have H := HA.out
          clear HA
          simp only [spec_l7Put.j1] at H
          have HC14 := Aside0.mk H
          clear H
          go_upto_if 16 with (fail)
          go_cut [] (fun wc => ∃ (kq : Nat) (x112002_13 : Int), Aside0 (spec_l7Put.j2 kq a1 a2 x112000_3 x112001_9 x112002_13 a0_3 a0_4 a0_5 a0_6 = some (r1, r2, r3, r4, r5, r6, r7)) ∧ Aside0 (kq ≤ kj9) ∧ Aside0 (wc.heap[gb111]? = some (.cells #[.int .u64 x112000_3, .int .u64 x112001_9, .int .u64 x112002_13, .int .u64 a0_3, .int .u64 a0_4, .int .u64 a0_5, .int .u64 a0_6] 30 (0, 0))) ∧ Aside0 (wc.heap[gb112]? = some (.cells #[.int .u64 0, .int .u64 0, .int .u64 0, .int .u64 0, .int .u64 0, .int .u64 0, .int .u64 0] 30 (0, 0))) ∧ Aside0 (Below w.heap.size w wc))
          case first =>
            have H := HC14.out
            clear HC14
            by_cases c15 : a1 = 2
            · rw [if_pos c15] at H
              have c15b0 : (a1 == 2) = true := beq_iff_eq.mpr c15
              have c15b1 : (a1 != 2) = false := bne_eq_false_iff_eq.mpr c15
              clear c15
              (first | rw [c15b0] | (simp only [i64_w, i32_w]; rw [c15b0]) | skip)
              have H' := Aside0.mk H
              clear H
              have hnb16 := NB111_112.out
              have hnc16 := NB112_111.out
              have hcz17_0 : wc.cell? ⟨gb111, 0, none⟩ = some (.int .u64 x112000_3) := (blk_cell BK111.out 0).trans rfl
              have hcz17_1 : wc.cell? ⟨gb111, 1, none⟩ = some (.int .u64 x112001_9) := (blk_cell BK111.out 1).trans rfl
              have hcz17_2 : wc.cell? ⟨gb111, 2, none⟩ = some (.int .u64 a0_2) := (blk_cell BK111.out 2).trans rfl
              have hcz17_3 : wc.cell? ⟨gb111, 3, none⟩ = some (.int .u64 a0_3) := (blk_cell BK111.out 3).trans rfl
              have hcz17_4 : wc.cell? ⟨gb111, 4, none⟩ = some (.int .u64 a0_4) := (blk_cell BK111.out 4).trans rfl
              have hcz17_5 : wc.cell? ⟨gb111, 5, none⟩ = some (.int .u64 a0_5) := (blk_cell BK111.out 5).trans rfl
              have hcz17_6 : wc.cell? ⟨gb111, 6, none⟩ = some (.int .u64 a0_6) := (blk_cell BK111.out 6).trans rfl
              have hfz17_0 := blk_frozen BK111.out 0
              have hfz17_1 := blk_frozen BK111.out 1
              have hfz17_2 := blk_frozen BK111.out 2
              have hfz17_3 := blk_frozen BK111.out 3
              have hfz17_4 := blk_frozen BK111.out 4
              have hfz17_5 := blk_frozen BK111.out 5
              have hfz17_6 := blk_frozen BK111.out 6
              go_wp2
              go_meet
              case rel => exact ⟨_, (a2), H', ⟨by have := HJ3.out; have := HJ9.out; first | omega | exact Nat.le_refl _⟩, ⟨by (with_reducible repeat (first | refine blk_drewN ?_ _ | refine blk_drew ?_ | refine blk_alloc ?_ _)); refine blk_put (cs := #[.int .u64 x112000_3, .int .u64 x112001_9, .int .u64 a0_2, .int .u64 a0_3, .int .u64 a0_4, .int .u64 a0_5, .int .u64 a0_6]) ?_ 2 _ rfl; (with_reducible repeat (first | refine blk_drewN ?_ _ | refine blk_drew ?_ | refine blk_alloc ?_ _)); exact BK111.out⟩, ⟨by (with_reducible repeat (first | refine blk_drewN ?_ _ | refine blk_drew ?_ | refine blk_alloc ?_ _)); refine blk_far ?_ NB112_111.out _; (with_reducible repeat (first | refine blk_drewN ?_ _ | refine blk_drew ?_ | refine blk_alloc ?_ _)); exact BK112.out⟩, ⟨by repeat (first | (with_reducible first | exact HB.out | apply below_alloc | apply pw_below_drewN | apply below_drew1 | refine below_set ?_ GE111.out | refine below_set ?_ GE112.out) | exact HB.out)⟩⟩
            · rw [if_neg c15] at H
              have c15b0 : (a1 == 2) = false := beq_eq_false_iff_ne.mpr c15
              have c15b1 : (a1 != 2) = true := bne_iff_ne.mpr c15
              (first | rw [c15b0] | (simp only [i64_w, i32_w]; rw [c15b0]) | skip)
              have H' := Aside0.mk H
              clear H
              go_wp2
              go_meet
              case rel => exact ⟨_, (a0_2), H', ⟨by have := HJ3.out; have := HJ9.out; first | omega | exact Nat.le_refl _⟩, ⟨by (with_reducible repeat (first | refine blk_drewN ?_ _ | refine blk_drew ?_ | refine blk_alloc ?_ _)); exact BK111.out⟩, ⟨by (with_reducible repeat (first | refine blk_drewN ?_ _ | refine blk_drew ?_ | refine blk_alloc ?_ _)); exact BK112.out⟩, ⟨by repeat (first | (with_reducible first | exact HB.out | apply below_alloc | apply pw_below_drewN | apply below_drew1 | refine below_set ?_ GE111.out | refine below_set ?_ GE112.out) | exact HB.out)⟩⟩
          case rest =>
            clear HC14
            try clear c1
            try clear p2
            try clear c5
            try clear c7
            try clear c7b0
            try clear c7b1
            try clear c8
            try clear c11
            try clear c11b0
            try clear c11b1
            try clear c12
            try clear c15
            try clear c15b0
            try clear c15b1
            try clear c16
            try clear hcz13_0
            try clear hcz13_1
            try clear hcz13_2
            try clear hcz13_3
            try clear hcz13_4
            try clear hcz13_5
            try clear hcz13_6
            try clear hcz17_0
            try clear hcz17_1
            try clear hcz17_2
            try clear hcz17_3
            try clear hcz17_4
            try clear hcz17_5
            try clear hcz17_6
            try clear hcz9_0
            try clear hcz9_1
            try clear hcz9_2
            try clear hcz9_3
            try clear hcz9_4
            try clear hcz9_5
            try clear hcz9_6
            try clear hfz13_0
            try clear hfz13_1
            try clear hfz13_2
            try clear hfz13_3
            try clear hfz13_4
            try clear hfz13_5
            try clear hfz13_6
            try clear hfz17_0
            try clear hfz17_1
            try clear hfz17_2
            try clear hfz17_3
            try clear hfz17_4
            try clear hfz17_5
            try clear hfz17_6
            try clear hfz9_0
            try clear hfz9_1
            try clear hfz9_2
            try clear hfz9_3
            try clear hfz9_4
            try clear hfz9_5
            try clear hfz9_6
            try clear p2
            obtain ⟨kq, x112002_13, HA, HJ13, BK111, BK112, HB⟩ := hcut
            cases kq with
            | zero => exact absurd HA.out (by simp [spec_l7Put.j2])
            | succ kj13 =>
              have H := HA.out
              clear HA
              simp only [spec_l7Put.j2] at H
              have HC18 := Aside0.mk H
              clear H
              go_upto_if 20 with (fail)
              go_cut [] (fun wc => ∃ (kq : Nat) (x112003_17 : Int), Aside0 (spec_l7Put.j3 kq a1 a2 x112000_3 x112001_9 x112002_13 x112003_17 a0_4 a0_5 a0_6 = some (r1, r2, r3, r4, r5, r6, r7)) ∧ Aside0 (kq ≤ kj13) ∧ Aside0 (wc.heap[gb111]? = some (.cells #[.int .u64 x112000_3, .int .u64 x112001_9, .int .u64 x112002_13, .int .u64 x112003_17, .int .u64 a0_4, .int .u64 a0_5, .int .u64 a0_6] 30 (0, 0))) ∧ Aside0 (wc.heap[gb112]? = some (.cells #[.int .u64 0, .int .u64 0, .int .u64 0, .int .u64 0, .int .u64 0, .int .u64 0, .int .u64 0] 30 (0, 0))) ∧ Aside0 (Below w.heap.size w wc))
              case first =>
                have H := HC18.out
                clear HC18
                by_cases c19 : a1 = 3
                · rw [if_pos c19] at H
                  have c19b0 : (a1 == 3) = true := beq_iff_eq.mpr c19
                  have c19b1 : (a1 != 3) = false := bne_eq_false_iff_eq.mpr c19
                  clear c19
                  (first | rw [c19b0] | (simp only [i64_w, i32_w]; rw [c19b0]) | skip)
                  have H' := Aside0.mk H
                  clear H
                  have hnb20 := NB111_112.out
                  have hnc20 := NB112_111.out
                  have hcz21_0 : wc.cell? ⟨gb111, 0, none⟩ = some (.int .u64 x112000_3) := (blk_cell BK111.out 0).trans rfl
                  have hcz21_1 : wc.cell? ⟨gb111, 1, none⟩ = some (.int .u64 x112001_9) := (blk_cell BK111.out 1).trans rfl
                  have hcz21_2 : wc.cell? ⟨gb111, 2, none⟩ = some (.int .u64 x112002_13) := (blk_cell BK111.out 2).trans rfl
                  have hcz21_3 : wc.cell? ⟨gb111, 3, none⟩ = some (.int .u64 a0_3) := (blk_cell BK111.out 3).trans rfl
                  have hcz21_4 : wc.cell? ⟨gb111, 4, none⟩ = some (.int .u64 a0_4) := (blk_cell BK111.out 4).trans rfl
                  have hcz21_5 : wc.cell? ⟨gb111, 5, none⟩ = some (.int .u64 a0_5) := (blk_cell BK111.out 5).trans rfl
                  have hcz21_6 : wc.cell? ⟨gb111, 6, none⟩ = some (.int .u64 a0_6) := (blk_cell BK111.out 6).trans rfl
                  have hfz21_0 := blk_frozen BK111.out 0
                  have hfz21_1 := blk_frozen BK111.out 1
                  have hfz21_2 := blk_frozen BK111.out 2
                  have hfz21_3 := blk_frozen BK111.out 3
                  have hfz21_4 := blk_frozen BK111.out 4
                  have hfz21_5 := blk_frozen BK111.out 5
                  have hfz21_6 := blk_frozen BK111.out 6
                  go_wp2
                  go_meet
                  case rel => exact ⟨_, (a2), H', ⟨by have := HJ3.out; have := HJ9.out; have := HJ13.out; first | omega | exact Nat.le_refl _⟩, ⟨by (with_reducible repeat (first | refine blk_drewN ?_ _ | refine blk_drew ?_ | refine blk_alloc ?_ _)); refine blk_put (cs := #[.int .u64 x112000_3, .int .u64 x112001_9, .int .u64 x112002_13, .int .u64 a0_3, .int .u64 a0_4, .int .u64 a0_5, .int .u64 a0_6]) ?_ 3 _ rfl; (with_reducible repeat (first | refine blk_drewN ?_ _ | refine blk_drew ?_ | refine blk_alloc ?_ _)); exact BK111.out⟩, ⟨by (with_reducible repeat (first | refine blk_drewN ?_ _ | refine blk_drew ?_ | refine blk_alloc ?_ _)); refine blk_far ?_ NB112_111.out _; (with_reducible repeat (first | refine blk_drewN ?_ _ | refine blk_drew ?_ | refine blk_alloc ?_ _)); exact BK112.out⟩, ⟨by repeat (first | (with_reducible first | exact HB.out | apply below_alloc | apply pw_below_drewN | apply below_drew1 | refine below_set ?_ GE111.out | refine below_set ?_ GE112.out) | exact HB.out)⟩⟩
                · rw [if_neg c19] at H
                  have c19b0 : (a1 == 3) = false := beq_eq_false_iff_ne.mpr c19
                  have c19b1 : (a1 != 3) = true := bne_iff_ne.mpr c19
                  (first | rw [c19b0] | (simp only [i64_w, i32_w]; rw [c19b0]) | skip)
                  have H' := Aside0.mk H
                  clear H
                  go_wp2
                  go_meet
                  case rel => exact ⟨_, (a0_3), H', ⟨by have := HJ3.out; have := HJ9.out; have := HJ13.out; first | omega | exact Nat.le_refl _⟩, ⟨by (with_reducible repeat (first | refine blk_drewN ?_ _ | refine blk_drew ?_ | refine blk_alloc ?_ _)); exact BK111.out⟩, ⟨by (with_reducible repeat (first | refine blk_drewN ?_ _ | refine blk_drew ?_ | refine blk_alloc ?_ _)); exact BK112.out⟩, ⟨by repeat (first | (with_reducible first | exact HB.out | apply below_alloc | apply pw_below_drewN | apply below_drew1 | refine below_set ?_ GE111.out | refine below_set ?_ GE112.out) | exact HB.out)⟩⟩
              case rest =>
                clear HC18
                try clear c1
                try clear c2
                try clear p2
                try clear c5
                try clear c7
                try clear c7b0
                try clear c7b1
                try clear c8
                try clear c11
                try clear c11b0
                try clear c11b1
                try clear c12
                try clear c15
                try clear c15b0
                try clear c15b1
                try clear c16
                try clear c19
                try clear c19b0
                try clear c19b1
                try clear c20
                try clear hcz13_0
                try clear hcz13_1
                try clear hcz13_2
                try clear hcz13_3
                try clear hcz13_4
                try clear hcz13_5
                try clear hcz13_6
                try clear hcz17_0
                try clear hcz17_1
                try clear hcz17_2
                try clear hcz17_3
                try clear hcz17_4
                try clear hcz17_5
                try clear hcz17_6
                try clear hcz21_0
                try clear hcz21_1
                try clear hcz21_2
                try clear hcz21_3
                try clear hcz21_4
                try clear hcz21_5
                try clear hcz21_6
                try clear hcz9_0
                try clear hcz9_1
                try clear hcz9_2
                try clear hcz9_3
                try clear hcz9_4
                try clear hcz9_5
                try clear hcz9_6
                try clear hfz13_0
                try clear hfz13_1
                try clear hfz13_2
                try clear hfz13_3
                try clear hfz13_4
                try clear hfz13_5
                try clear hfz13_6
                try clear hfz17_0
                try clear hfz17_1
                try clear hfz17_2
                try clear hfz17_3
                try clear hfz17_4
                try clear hfz17_5
                try clear hfz17_6
                try clear hfz21_0
                try clear hfz21_1
                try clear hfz21_2
                try clear hfz21_3
                try clear hfz21_4
                try clear hfz21_5
                try clear hfz21_6
                try clear hfz9_0
                try clear hfz9_1
                try clear hfz9_2
                try clear hfz9_3
                try clear hfz9_4
                try clear hfz9_5
                try clear hfz9_6
                try clear p2
                obtain ⟨kq, x112003_17, HA, HJ17, BK111, BK112, HB⟩ := hcut
                cases kq with
                | zero => exact absurd HA.out (by simp [spec_l7Put.j3])
                | succ kj17 =>
                  have H := HA.out
                  clear HA
                  simp only [spec_l7Put.j3] at H
                  have HC22 := Aside0.mk H
                  clear H
                  go_upto_if 25 with (fail)
                  go_cut [] (fun wc => ∃ (kq : Nat) (x112004_21 : Int), Aside0 (spec_l7Put.j4 kq a1 a2 x112000_3 x112001_9 x112002_13 x112003_17 x112004_21 a0_5 a0_6 = some (r1, r2, r3, r4, r5, r6, r7)) ∧ Aside0 (kq ≤ kj17) ∧ Aside0 (wc.heap[gb111]? = some (.cells #[.int .u64 x112000_3, .int .u64 x112001_9, .int .u64 x112002_13, .int .u64 x112003_17, .int .u64 x112004_21, .int .u64 a0_5, .int .u64 a0_6] 30 (0, 0))) ∧ Aside0 (wc.heap[gb112]? = some (.cells #[.int .u64 0, .int .u64 0, .int .u64 0, .int .u64 0, .int .u64 0, .int .u64 0, .int .u64 0] 30 (0, 0))) ∧ Aside0 (Below w.heap.size w wc))
                  case first =>
                    have H := HC22.out
                    clear HC22
                    by_cases c23 : a1 = 4
                    · rw [if_pos c23] at H
                      have c23b0 : (a1 == 4) = true := beq_iff_eq.mpr c23
                      have c23b1 : (a1 != 4) = false := bne_eq_false_iff_eq.mpr c23
                      clear c23
                      (first | rw [c23b0] | (simp only [i64_w, i32_w]; rw [c23b0]) | skip)
                      have H' := Aside0.mk H
                      clear H
                      have hnb24 := NB111_112.out
                      have hnc24 := NB112_111.out
                      have hcz25_0 : wc.cell? ⟨gb111, 0, none⟩ = some (.int .u64 x112000_3) := (blk_cell BK111.out 0).trans rfl
                      have hcz25_1 : wc.cell? ⟨gb111, 1, none⟩ = some (.int .u64 x112001_9) := (blk_cell BK111.out 1).trans rfl
                      have hcz25_2 : wc.cell? ⟨gb111, 2, none⟩ = some (.int .u64 x112002_13) := (blk_cell BK111.out 2).trans rfl
                      have hcz25_3 : wc.cell? ⟨gb111, 3, none⟩ = some (.int .u64 x112003_17) := (blk_cell BK111.out 3).trans rfl
                      have hcz25_4 : wc.cell? ⟨gb111, 4, none⟩ = some (.int .u64 a0_4) := (blk_cell BK111.out 4).trans rfl
                      have hcz25_5 : wc.cell? ⟨gb111, 5, none⟩ = some (.int .u64 a0_5) := (blk_cell BK111.out 5).trans rfl
                      have hcz25_6 : wc.cell? ⟨gb111, 6, none⟩ = some (.int .u64 a0_6) := (blk_cell BK111.out 6).trans rfl
                      have hfz25_0 := blk_frozen BK111.out 0
                      have hfz25_1 := blk_frozen BK111.out 1
                      have hfz25_2 := blk_frozen BK111.out 2
                      have hfz25_3 := blk_frozen BK111.out 3
                      have hfz25_4 := blk_frozen BK111.out 4
                      have hfz25_5 := blk_frozen BK111.out 5
                      have hfz25_6 := blk_frozen BK111.out 6
                      go_wp2
                      go_meet
                      case rel => exact ⟨_, (a2), H', ⟨by have := HJ3.out; have := HJ9.out; have := HJ13.out; have := HJ17.out; first | omega | exact Nat.le_refl _⟩, ⟨by (with_reducible repeat (first | refine blk_drewN ?_ _ | refine blk_drew ?_ | refine blk_alloc ?_ _)); refine blk_put (cs := #[.int .u64 x112000_3, .int .u64 x112001_9, .int .u64 x112002_13, .int .u64 x112003_17, .int .u64 a0_4, .int .u64 a0_5, .int .u64 a0_6]) ?_ 4 _ rfl; (with_reducible repeat (first | refine blk_drewN ?_ _ | refine blk_drew ?_ | refine blk_alloc ?_ _)); exact BK111.out⟩, ⟨by (with_reducible repeat (first | refine blk_drewN ?_ _ | refine blk_drew ?_ | refine blk_alloc ?_ _)); refine blk_far ?_ NB112_111.out _; (with_reducible repeat (first | refine blk_drewN ?_ _ | refine blk_drew ?_ | refine blk_alloc ?_ _)); exact BK112.out⟩, ⟨by repeat (first | (with_reducible first | exact HB.out | apply below_alloc | apply pw_below_drewN | apply below_drew1 | refine below_set ?_ GE111.out | refine below_set ?_ GE112.out) | exact HB.out)⟩⟩
                    · rw [if_neg c23] at H
                      have c23b0 : (a1 == 4) = false := beq_eq_false_iff_ne.mpr c23
                      have c23b1 : (a1 != 4) = true := bne_iff_ne.mpr c23
                      (first | rw [c23b0] | (simp only [i64_w, i32_w]; rw [c23b0]) | skip)
                      have H' := Aside0.mk H
                      clear H
                      go_wp2
                      go_meet
                      case rel => exact ⟨_, (a0_4), H', ⟨by have := HJ3.out; have := HJ9.out; have := HJ13.out; have := HJ17.out; first | omega | exact Nat.le_refl _⟩, ⟨by (with_reducible repeat (first | refine blk_drewN ?_ _ | refine blk_drew ?_ | refine blk_alloc ?_ _)); exact BK111.out⟩, ⟨by (with_reducible repeat (first | refine blk_drewN ?_ _ | refine blk_drew ?_ | refine blk_alloc ?_ _)); exact BK112.out⟩, ⟨by repeat (first | (with_reducible first | exact HB.out | apply below_alloc | apply pw_below_drewN | apply below_drew1 | refine below_set ?_ GE111.out | refine below_set ?_ GE112.out) | exact HB.out)⟩⟩
                  case rest =>
                    clear HC22
                    try clear c1
                    try clear c2
                    try clear p2
                    try clear c5
                    try clear c7
                    try clear c7b0
                    try clear c7b1
                    try clear c8
                    try clear c11
                    try clear c11b0
                    try clear c11b1
                    try clear c12
                    try clear c15
                    try clear c15b0
                    try clear c15b1
                    try clear c16
                    try clear c19
                    try clear c19b0
                    try clear c19b1
                    try clear c20
                    try clear c23
                    try clear c23b0
                    try clear c23b1
                    try clear c24
                    try clear hcz13_0
                    try clear hcz13_1
                    try clear hcz13_2
                    try clear hcz13_3
                    try clear hcz13_4
                    try clear hcz13_5
                    try clear hcz13_6
                    try clear hcz17_0
                    try clear hcz17_1
                    try clear hcz17_2
                    try clear hcz17_3
                    try clear hcz17_4
                    try clear hcz17_5
                    try clear hcz17_6
                    try clear hcz21_0
                    try clear hcz21_1
                    try clear hcz21_2
                    try clear hcz21_3
                    try clear hcz21_4
                    try clear hcz21_5
                    try clear hcz21_6
                    try clear hcz25_0
                    try clear hcz25_1
                    try clear hcz25_2
                    try clear hcz25_3
                    try clear hcz25_4
                    try clear hcz25_5
                    try clear hcz25_6
                    try clear hcz9_0
                    try clear hcz9_1
                    try clear hcz9_2
                    try clear hcz9_3
                    try clear hcz9_4
                    try clear hcz9_5
                    try clear hcz9_6
                    try clear hfz13_0
                    try clear hfz13_1
                    try clear hfz13_2
                    try clear hfz13_3
                    try clear hfz13_4
                    try clear hfz13_5
                    try clear hfz13_6
                    try clear hfz17_0
                    try clear hfz17_1
                    try clear hfz17_2
                    try clear hfz17_3
                    try clear hfz17_4
                    try clear hfz17_5
                    try clear hfz17_6
                    try clear hfz21_0
                    try clear hfz21_1
                    try clear hfz21_2
                    try clear hfz21_3
                    try clear hfz21_4
                    try clear hfz21_5
                    try clear hfz21_6
                    try clear hfz25_0
                    try clear hfz25_1
                    try clear hfz25_2
                    try clear hfz25_3
                    try clear hfz25_4
                    try clear hfz25_5
                    try clear hfz25_6
                    try clear hfz9_0
                    try clear hfz9_1
                    try clear hfz9_2
                    try clear hfz9_3
                    try clear hfz9_4
                    try clear hfz9_5
                    try clear hfz9_6
                    try clear p2
                    obtain ⟨kq, x112004_21, HA, HJ21, BK111, BK112, HB⟩ := hcut
                    cases kq with
                    | zero => exact absurd HA.out (by simp [spec_l7Put.j4])
                    | succ kj21 =>
                      have H := HA.out
                      clear HA
                      simp only [spec_l7Put.j4] at H
                      by_cases c26 : a1 = 5
                      · rw [if_pos c26] at H
                        have c26b0 : (a1 == 5) = true := beq_iff_eq.mpr c26
                        have c26b1 : (a1 != 5) = false := bne_eq_false_iff_eq.mpr c26
                        clear c26
                        by_cases c27 : a1 = 6
                        · rw [if_pos c27] at H
                          have c27b0 : (a1 == 6) = true := beq_iff_eq.mpr c27
                          have c27b1 : (a1 != 6) = false := bne_eq_false_iff_eq.mpr c27
                          clear c27
                          simp only [Option.some.injEq, Prod.mk.injEq] at H
                          obtain ⟨rfl, rfl, rfl, rfl, rfl, rfl, rfl⟩ := H
                          have hnb28 := NB111_112.out
                          have hnc28 := NB112_111.out
                          have hcz29_0 : wc.cell? ⟨gb111, 0, none⟩ = some (.int .u64 x112000_3) := (blk_cell BK111.out 0).trans rfl
                          have hcz29_1 : wc.cell? ⟨gb111, 1, none⟩ = some (.int .u64 x112001_9) := (blk_cell BK111.out 1).trans rfl
                          have hcz29_2 : wc.cell? ⟨gb111, 2, none⟩ = some (.int .u64 x112002_13) := (blk_cell BK111.out 2).trans rfl
                          have hcz29_3 : wc.cell? ⟨gb111, 3, none⟩ = some (.int .u64 x112003_17) := (blk_cell BK111.out 3).trans rfl
                          have hcz29_4 : wc.cell? ⟨gb111, 4, none⟩ = some (.int .u64 x112004_21) := (blk_cell BK111.out 4).trans rfl
                          have hcz29_5 : wc.cell? ⟨gb111, 5, none⟩ = some (.int .u64 a0_5) := (blk_cell BK111.out 5).trans rfl
                          have hcz29_6 : wc.cell? ⟨gb111, 6, none⟩ = some (.int .u64 a0_6) := (blk_cell BK111.out 6).trans rfl
                          have hfz29_0 := blk_frozen BK111.out 0
                          have hfz29_1 := blk_frozen BK111.out 1
                          have hfz29_2 := blk_frozen BK111.out 2
                          have hfz29_3 := blk_frozen BK111.out 3
                          have hfz29_4 := blk_frozen BK111.out 4
                          have hfz29_5 := blk_frozen BK111.out 5
                          have hfz29_6 := blk_frozen BK111.out 6
                          have hcz30_0 : wc.cell? ⟨gb112, 0, none⟩ = some (.int .u64 0) := (blk_cell BK112.out 0).trans rfl
                          have hcz30_1 : wc.cell? ⟨gb112, 1, none⟩ = some (.int .u64 0) := (blk_cell BK112.out 1).trans rfl
                          have hcz30_2 : wc.cell? ⟨gb112, 2, none⟩ = some (.int .u64 0) := (blk_cell BK112.out 2).trans rfl
                          have hcz30_3 : wc.cell? ⟨gb112, 3, none⟩ = some (.int .u64 0) := (blk_cell BK112.out 3).trans rfl
                          have hcz30_4 : wc.cell? ⟨gb112, 4, none⟩ = some (.int .u64 0) := (blk_cell BK112.out 4).trans rfl
                          have hcz30_5 : wc.cell? ⟨gb112, 5, none⟩ = some (.int .u64 0) := (blk_cell BK112.out 5).trans rfl
                          have hcz30_6 : wc.cell? ⟨gb112, 6, none⟩ = some (.int .u64 0) := (blk_cell BK112.out 6).trans rfl
                          have hfz30_0 := blk_frozen BK112.out 0
                          have hfz30_1 := blk_frozen BK112.out 1
                          have hfz30_2 := blk_frozen BK112.out 2
                          have hfz30_3 := blk_frozen BK112.out 3
                          have hfz30_4 := blk_frozen BK112.out 4
                          have hfz30_5 := blk_frozen BK112.out 5
                          have hfz30_6 := blk_frozen BK112.out 6
                          go_wp2
                          refine bodyPost_ret (results_cell_row rfl _ _ gb112 30 #[.int .u64 x112000_3, .int .u64 x112001_9, .int .u64 x112002_13, .int .u64 x112003_17, .int .u64 x112004_21, .int .u64 a2, .int .u64 a2] (0, 0) _ rfl ?hblk Try.underlying30 rfl (by kernel_rfl)) rfl ?_
                          case hblk => (with_reducible repeat (first | refine blk_drewN ?_ _ | refine blk_drew ?_ | refine blk_alloc ?_ _)); refine blk_put (cs := #[.int .u64 x112000_3, .int .u64 x112001_9, .int .u64 x112002_13, .int .u64 x112003_17, .int .u64 x112004_21, .int .u64 a2, .int .u64 0]) ?_ 6 _ rfl; (with_reducible repeat (first | refine blk_drewN ?_ _ | refine blk_drew ?_ | refine blk_alloc ?_ _)); refine blk_put (cs := #[.int .u64 x112000_3, .int .u64 x112001_9, .int .u64 x112002_13, .int .u64 x112003_17, .int .u64 x112004_21, .int .u64 0, .int .u64 0]) ?_ 5 _ rfl; (with_reducible repeat (first | refine blk_drewN ?_ _ | refine blk_drew ?_ | refine blk_alloc ?_ _)); refine blk_put (cs := #[.int .u64 x112000_3, .int .u64 x112001_9, .int .u64 x112002_13, .int .u64 x112003_17, .int .u64 0, .int .u64 0, .int .u64 0]) ?_ 4 _ rfl; (with_reducible repeat (first | refine blk_drewN ?_ _ | refine blk_drew ?_ | refine blk_alloc ?_ _)); refine blk_put (cs := #[.int .u64 x112000_3, .int .u64 x112001_9, .int .u64 x112002_13, .int .u64 0, .int .u64 0, .int .u64 0, .int .u64 0]) ?_ 3 _ rfl; (with_reducible repeat (first | refine blk_drewN ?_ _ | refine blk_drew ?_ | refine blk_alloc ?_ _)); refine blk_put (cs := #[.int .u64 x112000_3, .int .u64 x112001_9, .int .u64 0, .int .u64 0, .int .u64 0, .int .u64 0, .int .u64 0]) ?_ 2 _ rfl; (with_reducible repeat (first | refine blk_drewN ?_ _ | refine blk_drew ?_ | refine blk_alloc ?_ _)); refine blk_put (cs := #[.int .u64 x112000_3, .int .u64 0, .int .u64 0, .int .u64 0, .int .u64 0, .int .u64 0, .int .u64 0]) ?_ 1 _ rfl; (with_reducible repeat (first | refine blk_drewN ?_ _ | refine blk_drew ?_ | refine blk_alloc ?_ _)); refine blk_put (cs := #[.int .u64 0, .int .u64 0, .int .u64 0, .int .u64 0, .int .u64 0, .int .u64 0, .int .u64 0]) ?_ 0 _ rfl; (with_reducible repeat (first | refine blk_drewN ?_ _ | refine blk_drew ?_ | refine blk_alloc ?_ _)); refine blk_far ?_ NB112_111.out _; (with_reducible repeat (first | refine blk_drewN ?_ _ | refine blk_drew ?_ | refine blk_alloc ?_ _)); refine blk_far ?_ NB112_111.out _; (with_reducible repeat (first | refine blk_drewN ?_ _ | refine blk_drew ?_ | refine blk_alloc ?_ _)); exact BK112.out
                          exact ⟨by first | rfl | (simp [errW_none, errW_some] <;> rfl) | (simp [*, errW_none, errW_some] <;> rfl), by repeat (first | (with_reducible first | exact HB.out | apply below_alloc | apply pw_below_drewN | apply below_drew1 | refine below_set ?_ GE111.out | refine below_set ?_ GE112.out) | exact HB.out)⟩
                        · rw [if_neg c27] at H
                          have c27b0 : (a1 == 6) = false := beq_eq_false_iff_ne.mpr c27
                          have c27b1 : (a1 != 6) = true := bne_iff_ne.mpr c27
                          simp only [Option.some.injEq, Prod.mk.injEq] at H
                          obtain ⟨rfl, rfl, rfl, rfl, rfl, rfl, rfl⟩ := H
                          have hnb31 := NB111_112.out
                          have hnc31 := NB112_111.out
                          have hcz32_0 : wc.cell? ⟨gb111, 0, none⟩ = some (.int .u64 x112000_3) := (blk_cell BK111.out 0).trans rfl
                          have hcz32_1 : wc.cell? ⟨gb111, 1, none⟩ = some (.int .u64 x112001_9) := (blk_cell BK111.out 1).trans rfl
                          have hcz32_2 : wc.cell? ⟨gb111, 2, none⟩ = some (.int .u64 x112002_13) := (blk_cell BK111.out 2).trans rfl
                          have hcz32_3 : wc.cell? ⟨gb111, 3, none⟩ = some (.int .u64 x112003_17) := (blk_cell BK111.out 3).trans rfl
                          have hcz32_4 : wc.cell? ⟨gb111, 4, none⟩ = some (.int .u64 x112004_21) := (blk_cell BK111.out 4).trans rfl
                          have hcz32_5 : wc.cell? ⟨gb111, 5, none⟩ = some (.int .u64 a0_5) := (blk_cell BK111.out 5).trans rfl
                          have hcz32_6 : wc.cell? ⟨gb111, 6, none⟩ = some (.int .u64 a0_6) := (blk_cell BK111.out 6).trans rfl
                          have hfz32_0 := blk_frozen BK111.out 0
                          have hfz32_1 := blk_frozen BK111.out 1
                          have hfz32_2 := blk_frozen BK111.out 2
                          have hfz32_3 := blk_frozen BK111.out 3
                          have hfz32_4 := blk_frozen BK111.out 4
                          have hfz32_5 := blk_frozen BK111.out 5
                          have hfz32_6 := blk_frozen BK111.out 6
                          have hcz33_0 : wc.cell? ⟨gb112, 0, none⟩ = some (.int .u64 0) := (blk_cell BK112.out 0).trans rfl
                          have hcz33_1 : wc.cell? ⟨gb112, 1, none⟩ = some (.int .u64 0) := (blk_cell BK112.out 1).trans rfl
                          have hcz33_2 : wc.cell? ⟨gb112, 2, none⟩ = some (.int .u64 0) := (blk_cell BK112.out 2).trans rfl
                          have hcz33_3 : wc.cell? ⟨gb112, 3, none⟩ = some (.int .u64 0) := (blk_cell BK112.out 3).trans rfl
                          have hcz33_4 : wc.cell? ⟨gb112, 4, none⟩ = some (.int .u64 0) := (blk_cell BK112.out 4).trans rfl
                          have hcz33_5 : wc.cell? ⟨gb112, 5, none⟩ = some (.int .u64 0) := (blk_cell BK112.out 5).trans rfl
                          have hcz33_6 : wc.cell? ⟨gb112, 6, none⟩ = some (.int .u64 0) := (blk_cell BK112.out 6).trans rfl
                          have hfz33_0 := blk_frozen BK112.out 0
                          have hfz33_1 := blk_frozen BK112.out 1
                          have hfz33_2 := blk_frozen BK112.out 2
                          have hfz33_3 := blk_frozen BK112.out 3
                          have hfz33_4 := blk_frozen BK112.out 4
                          have hfz33_5 := blk_frozen BK112.out 5
                          have hfz33_6 := blk_frozen BK112.out 6
                          go_wp2
                          refine bodyPost_ret (results_cell_row rfl _ _ gb112 30 #[.int .u64 x112000_3, .int .u64 x112001_9, .int .u64 x112002_13, .int .u64 x112003_17, .int .u64 x112004_21, .int .u64 a2, .int .u64 a0_6] (0, 0) _ rfl ?hblk Try.underlying30 rfl (by kernel_rfl)) rfl ?_
                          case hblk => (with_reducible repeat (first | refine blk_drewN ?_ _ | refine blk_drew ?_ | refine blk_alloc ?_ _)); refine blk_put (cs := #[.int .u64 x112000_3, .int .u64 x112001_9, .int .u64 x112002_13, .int .u64 x112003_17, .int .u64 x112004_21, .int .u64 a2, .int .u64 0]) ?_ 6 _ rfl; (with_reducible repeat (first | refine blk_drewN ?_ _ | refine blk_drew ?_ | refine blk_alloc ?_ _)); refine blk_put (cs := #[.int .u64 x112000_3, .int .u64 x112001_9, .int .u64 x112002_13, .int .u64 x112003_17, .int .u64 x112004_21, .int .u64 0, .int .u64 0]) ?_ 5 _ rfl; (with_reducible repeat (first | refine blk_drewN ?_ _ | refine blk_drew ?_ | refine blk_alloc ?_ _)); refine blk_put (cs := #[.int .u64 x112000_3, .int .u64 x112001_9, .int .u64 x112002_13, .int .u64 x112003_17, .int .u64 0, .int .u64 0, .int .u64 0]) ?_ 4 _ rfl; (with_reducible repeat (first | refine blk_drewN ?_ _ | refine blk_drew ?_ | refine blk_alloc ?_ _)); refine blk_put (cs := #[.int .u64 x112000_3, .int .u64 x112001_9, .int .u64 x112002_13, .int .u64 0, .int .u64 0, .int .u64 0, .int .u64 0]) ?_ 3 _ rfl; (with_reducible repeat (first | refine blk_drewN ?_ _ | refine blk_drew ?_ | refine blk_alloc ?_ _)); refine blk_put (cs := #[.int .u64 x112000_3, .int .u64 x112001_9, .int .u64 0, .int .u64 0, .int .u64 0, .int .u64 0, .int .u64 0]) ?_ 2 _ rfl; (with_reducible repeat (first | refine blk_drewN ?_ _ | refine blk_drew ?_ | refine blk_alloc ?_ _)); refine blk_put (cs := #[.int .u64 x112000_3, .int .u64 0, .int .u64 0, .int .u64 0, .int .u64 0, .int .u64 0, .int .u64 0]) ?_ 1 _ rfl; (with_reducible repeat (first | refine blk_drewN ?_ _ | refine blk_drew ?_ | refine blk_alloc ?_ _)); refine blk_put (cs := #[.int .u64 0, .int .u64 0, .int .u64 0, .int .u64 0, .int .u64 0, .int .u64 0, .int .u64 0]) ?_ 0 _ rfl; (with_reducible repeat (first | refine blk_drewN ?_ _ | refine blk_drew ?_ | refine blk_alloc ?_ _)); refine blk_far ?_ NB112_111.out _; (with_reducible repeat (first | refine blk_drewN ?_ _ | refine blk_drew ?_ | refine blk_alloc ?_ _)); exact BK112.out
                          exact ⟨by first | rfl | (simp [errW_none, errW_some] <;> rfl) | (simp [*, errW_none, errW_some] <;> rfl), by repeat (first | (with_reducible first | exact HB.out | apply below_alloc | apply pw_below_drewN | apply below_drew1 | refine below_set ?_ GE111.out | refine below_set ?_ GE112.out) | exact HB.out)⟩
                      · rw [if_neg c26] at H
                        have c26b0 : (a1 == 5) = false := beq_eq_false_iff_ne.mpr c26
                        have c26b1 : (a1 != 5) = true := bne_iff_ne.mpr c26
                        by_cases c34 : a1 = 6
                        · rw [if_pos c34] at H
                          have c34b0 : (a1 == 6) = true := beq_iff_eq.mpr c34
                          have c34b1 : (a1 != 6) = false := bne_eq_false_iff_eq.mpr c34
                          clear c34
                          simp only [Option.some.injEq, Prod.mk.injEq] at H
                          obtain ⟨rfl, rfl, rfl, rfl, rfl, rfl, rfl⟩ := H
                          have hnb35 := NB111_112.out
                          have hnc35 := NB112_111.out
                          have hcz36_0 : wc.cell? ⟨gb111, 0, none⟩ = some (.int .u64 x112000_3) := (blk_cell BK111.out 0).trans rfl
                          have hcz36_1 : wc.cell? ⟨gb111, 1, none⟩ = some (.int .u64 x112001_9) := (blk_cell BK111.out 1).trans rfl
                          have hcz36_2 : wc.cell? ⟨gb111, 2, none⟩ = some (.int .u64 x112002_13) := (blk_cell BK111.out 2).trans rfl
                          have hcz36_3 : wc.cell? ⟨gb111, 3, none⟩ = some (.int .u64 x112003_17) := (blk_cell BK111.out 3).trans rfl
                          have hcz36_4 : wc.cell? ⟨gb111, 4, none⟩ = some (.int .u64 x112004_21) := (blk_cell BK111.out 4).trans rfl
                          have hcz36_5 : wc.cell? ⟨gb111, 5, none⟩ = some (.int .u64 a0_5) := (blk_cell BK111.out 5).trans rfl
                          have hcz36_6 : wc.cell? ⟨gb111, 6, none⟩ = some (.int .u64 a0_6) := (blk_cell BK111.out 6).trans rfl
                          have hfz36_0 := blk_frozen BK111.out 0
                          have hfz36_1 := blk_frozen BK111.out 1
                          have hfz36_2 := blk_frozen BK111.out 2
                          have hfz36_3 := blk_frozen BK111.out 3
                          have hfz36_4 := blk_frozen BK111.out 4
                          have hfz36_5 := blk_frozen BK111.out 5
                          have hfz36_6 := blk_frozen BK111.out 6
                          have hcz37_0 : wc.cell? ⟨gb112, 0, none⟩ = some (.int .u64 0) := (blk_cell BK112.out 0).trans rfl
                          have hcz37_1 : wc.cell? ⟨gb112, 1, none⟩ = some (.int .u64 0) := (blk_cell BK112.out 1).trans rfl
                          have hcz37_2 : wc.cell? ⟨gb112, 2, none⟩ = some (.int .u64 0) := (blk_cell BK112.out 2).trans rfl
                          have hcz37_3 : wc.cell? ⟨gb112, 3, none⟩ = some (.int .u64 0) := (blk_cell BK112.out 3).trans rfl
                          have hcz37_4 : wc.cell? ⟨gb112, 4, none⟩ = some (.int .u64 0) := (blk_cell BK112.out 4).trans rfl
                          have hcz37_5 : wc.cell? ⟨gb112, 5, none⟩ = some (.int .u64 0) := (blk_cell BK112.out 5).trans rfl
                          have hcz37_6 : wc.cell? ⟨gb112, 6, none⟩ = some (.int .u64 0) := (blk_cell BK112.out 6).trans rfl
                          have hfz37_0 := blk_frozen BK112.out 0
                          have hfz37_1 := blk_frozen BK112.out 1
                          have hfz37_2 := blk_frozen BK112.out 2
                          have hfz37_3 := blk_frozen BK112.out 3
                          have hfz37_4 := blk_frozen BK112.out 4
                          have hfz37_5 := blk_frozen BK112.out 5
                          have hfz37_6 := blk_frozen BK112.out 6
                          go_wp2
                          refine bodyPost_ret (results_cell_row rfl _ _ gb112 30 #[.int .u64 x112000_3, .int .u64 x112001_9, .int .u64 x112002_13, .int .u64 x112003_17, .int .u64 x112004_21, .int .u64 a0_5, .int .u64 a2] (0, 0) _ rfl ?hblk Try.underlying30 rfl (by kernel_rfl)) rfl ?_
                          case hblk => (with_reducible repeat (first | refine blk_drewN ?_ _ | refine blk_drew ?_ | refine blk_alloc ?_ _)); refine blk_put (cs := #[.int .u64 x112000_3, .int .u64 x112001_9, .int .u64 x112002_13, .int .u64 x112003_17, .int .u64 x112004_21, .int .u64 a0_5, .int .u64 0]) ?_ 6 _ rfl; (with_reducible repeat (first | refine blk_drewN ?_ _ | refine blk_drew ?_ | refine blk_alloc ?_ _)); refine blk_put (cs := #[.int .u64 x112000_3, .int .u64 x112001_9, .int .u64 x112002_13, .int .u64 x112003_17, .int .u64 x112004_21, .int .u64 0, .int .u64 0]) ?_ 5 _ rfl; (with_reducible repeat (first | refine blk_drewN ?_ _ | refine blk_drew ?_ | refine blk_alloc ?_ _)); refine blk_put (cs := #[.int .u64 x112000_3, .int .u64 x112001_9, .int .u64 x112002_13, .int .u64 x112003_17, .int .u64 0, .int .u64 0, .int .u64 0]) ?_ 4 _ rfl; (with_reducible repeat (first | refine blk_drewN ?_ _ | refine blk_drew ?_ | refine blk_alloc ?_ _)); refine blk_put (cs := #[.int .u64 x112000_3, .int .u64 x112001_9, .int .u64 x112002_13, .int .u64 0, .int .u64 0, .int .u64 0, .int .u64 0]) ?_ 3 _ rfl; (with_reducible repeat (first | refine blk_drewN ?_ _ | refine blk_drew ?_ | refine blk_alloc ?_ _)); refine blk_put (cs := #[.int .u64 x112000_3, .int .u64 x112001_9, .int .u64 0, .int .u64 0, .int .u64 0, .int .u64 0, .int .u64 0]) ?_ 2 _ rfl; (with_reducible repeat (first | refine blk_drewN ?_ _ | refine blk_drew ?_ | refine blk_alloc ?_ _)); refine blk_put (cs := #[.int .u64 x112000_3, .int .u64 0, .int .u64 0, .int .u64 0, .int .u64 0, .int .u64 0, .int .u64 0]) ?_ 1 _ rfl; (with_reducible repeat (first | refine blk_drewN ?_ _ | refine blk_drew ?_ | refine blk_alloc ?_ _)); refine blk_put (cs := #[.int .u64 0, .int .u64 0, .int .u64 0, .int .u64 0, .int .u64 0, .int .u64 0, .int .u64 0]) ?_ 0 _ rfl; (with_reducible repeat (first | refine blk_drewN ?_ _ | refine blk_drew ?_ | refine blk_alloc ?_ _)); refine blk_far ?_ NB112_111.out _; (with_reducible repeat (first | refine blk_drewN ?_ _ | refine blk_drew ?_ | refine blk_alloc ?_ _)); exact BK112.out
                          exact ⟨by first | rfl | (simp [errW_none, errW_some] <;> rfl) | (simp [*, errW_none, errW_some] <;> rfl), by repeat (first | (with_reducible first | exact HB.out | apply below_alloc | apply pw_below_drewN | apply below_drew1 | refine below_set ?_ GE111.out | refine below_set ?_ GE112.out) | exact HB.out)⟩
                        · rw [if_neg c34] at H
                          have c34b0 : (a1 == 6) = false := beq_eq_false_iff_ne.mpr c34
                          have c34b1 : (a1 != 6) = true := bne_iff_ne.mpr c34
                          simp only [Option.some.injEq, Prod.mk.injEq] at H
                          obtain ⟨rfl, rfl, rfl, rfl, rfl, rfl, rfl⟩ := H
                          have hnb38 := NB111_112.out
                          have hnc38 := NB112_111.out
                          have hcz39_0 : wc.cell? ⟨gb111, 0, none⟩ = some (.int .u64 x112000_3) := (blk_cell BK111.out 0).trans rfl
                          have hcz39_1 : wc.cell? ⟨gb111, 1, none⟩ = some (.int .u64 x112001_9) := (blk_cell BK111.out 1).trans rfl
                          have hcz39_2 : wc.cell? ⟨gb111, 2, none⟩ = some (.int .u64 x112002_13) := (blk_cell BK111.out 2).trans rfl
                          have hcz39_3 : wc.cell? ⟨gb111, 3, none⟩ = some (.int .u64 x112003_17) := (blk_cell BK111.out 3).trans rfl
                          have hcz39_4 : wc.cell? ⟨gb111, 4, none⟩ = some (.int .u64 x112004_21) := (blk_cell BK111.out 4).trans rfl
                          have hcz39_5 : wc.cell? ⟨gb111, 5, none⟩ = some (.int .u64 a0_5) := (blk_cell BK111.out 5).trans rfl
                          have hcz39_6 : wc.cell? ⟨gb111, 6, none⟩ = some (.int .u64 a0_6) := (blk_cell BK111.out 6).trans rfl
                          have hfz39_0 := blk_frozen BK111.out 0
                          have hfz39_1 := blk_frozen BK111.out 1
                          have hfz39_2 := blk_frozen BK111.out 2
                          have hfz39_3 := blk_frozen BK111.out 3
                          have hfz39_4 := blk_frozen BK111.out 4
                          have hfz39_5 := blk_frozen BK111.out 5
                          have hfz39_6 := blk_frozen BK111.out 6
                          have hcz40_0 : wc.cell? ⟨gb112, 0, none⟩ = some (.int .u64 0) := (blk_cell BK112.out 0).trans rfl
                          have hcz40_1 : wc.cell? ⟨gb112, 1, none⟩ = some (.int .u64 0) := (blk_cell BK112.out 1).trans rfl
                          have hcz40_2 : wc.cell? ⟨gb112, 2, none⟩ = some (.int .u64 0) := (blk_cell BK112.out 2).trans rfl
                          have hcz40_3 : wc.cell? ⟨gb112, 3, none⟩ = some (.int .u64 0) := (blk_cell BK112.out 3).trans rfl
                          have hcz40_4 : wc.cell? ⟨gb112, 4, none⟩ = some (.int .u64 0) := (blk_cell BK112.out 4).trans rfl
                          have hcz40_5 : wc.cell? ⟨gb112, 5, none⟩ = some (.int .u64 0) := (blk_cell BK112.out 5).trans rfl
                          have hcz40_6 : wc.cell? ⟨gb112, 6, none⟩ = some (.int .u64 0) := (blk_cell BK112.out 6).trans rfl
                          have hfz40_0 := blk_frozen BK112.out 0
                          have hfz40_1 := blk_frozen BK112.out 1
                          have hfz40_2 := blk_frozen BK112.out 2
                          have hfz40_3 := blk_frozen BK112.out 3
                          have hfz40_4 := blk_frozen BK112.out 4
                          have hfz40_5 := blk_frozen BK112.out 5
                          have hfz40_6 := blk_frozen BK112.out 6
                          go_wp2
                          refine bodyPost_ret (results_cell_row rfl _ _ gb112 30 #[.int .u64 x112000_3, .int .u64 x112001_9, .int .u64 x112002_13, .int .u64 x112003_17, .int .u64 x112004_21, .int .u64 a0_5, .int .u64 a0_6] (0, 0) _ rfl ?hblk Try.underlying30 rfl (by kernel_rfl)) rfl ?_
                          case hblk => (with_reducible repeat (first | refine blk_drewN ?_ _ | refine blk_drew ?_ | refine blk_alloc ?_ _)); refine blk_put (cs := #[.int .u64 x112000_3, .int .u64 x112001_9, .int .u64 x112002_13, .int .u64 x112003_17, .int .u64 x112004_21, .int .u64 a0_5, .int .u64 0]) ?_ 6 _ rfl; (with_reducible repeat (first | refine blk_drewN ?_ _ | refine blk_drew ?_ | refine blk_alloc ?_ _)); refine blk_put (cs := #[.int .u64 x112000_3, .int .u64 x112001_9, .int .u64 x112002_13, .int .u64 x112003_17, .int .u64 x112004_21, .int .u64 0, .int .u64 0]) ?_ 5 _ rfl; (with_reducible repeat (first | refine blk_drewN ?_ _ | refine blk_drew ?_ | refine blk_alloc ?_ _)); refine blk_put (cs := #[.int .u64 x112000_3, .int .u64 x112001_9, .int .u64 x112002_13, .int .u64 x112003_17, .int .u64 0, .int .u64 0, .int .u64 0]) ?_ 4 _ rfl; (with_reducible repeat (first | refine blk_drewN ?_ _ | refine blk_drew ?_ | refine blk_alloc ?_ _)); refine blk_put (cs := #[.int .u64 x112000_3, .int .u64 x112001_9, .int .u64 x112002_13, .int .u64 0, .int .u64 0, .int .u64 0, .int .u64 0]) ?_ 3 _ rfl; (with_reducible repeat (first | refine blk_drewN ?_ _ | refine blk_drew ?_ | refine blk_alloc ?_ _)); refine blk_put (cs := #[.int .u64 x112000_3, .int .u64 x112001_9, .int .u64 0, .int .u64 0, .int .u64 0, .int .u64 0, .int .u64 0]) ?_ 2 _ rfl; (with_reducible repeat (first | refine blk_drewN ?_ _ | refine blk_drew ?_ | refine blk_alloc ?_ _)); refine blk_put (cs := #[.int .u64 x112000_3, .int .u64 0, .int .u64 0, .int .u64 0, .int .u64 0, .int .u64 0, .int .u64 0]) ?_ 1 _ rfl; (with_reducible repeat (first | refine blk_drewN ?_ _ | refine blk_drew ?_ | refine blk_alloc ?_ _)); refine blk_put (cs := #[.int .u64 0, .int .u64 0, .int .u64 0, .int .u64 0, .int .u64 0, .int .u64 0, .int .u64 0]) ?_ 0 _ rfl; (with_reducible repeat (first | refine blk_drewN ?_ _ | refine blk_drew ?_ | refine blk_alloc ?_ _)); exact BK112.out
                          exact ⟨by first | rfl | (simp [errW_none, errW_some] <;> rfl) | (simp [*, errW_none, errW_some] <;> rfl), by repeat (first | (with_reducible first | exact HB.out | apply below_alloc | apply pw_below_drewN | apply below_drew1 | refine below_set ?_ GE111.out | refine below_set ?_ GE112.out) | exact HB.out)⟩

end Go.Proofs.Ytcgfgodpiobcfaa.R
