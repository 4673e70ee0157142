/- The walk of functions of the given program: what each computes, as a Lean function, and that the code comes to it. Written by a program of this session's. No condition but each theorem's own. -/
import Derived.Test.YtpdcdajccfccbaaQD
import Derived.Test.YtpdcdajccfccbaaQx1
import Derived.Test.YtpdcdajccfccbaaQx2
import Derived.Test.YtpdcdajccfccbaaQx3
namespace Go.Proofs.Ytpdcdajccfccbaa.Q
open Go.RowKit Go.Proofs.YtpdcdajccfccbaaW.PrintWords Go.Proofs.YtpdcdajccfccbaaW.PrintLast Go.Proofs.YtpdcdajccfccbaaW.PrintMore
attribute [local go_sem] max2_int min2_int max_two min_two max_three min_three max_four min_four   -- for this text's walks alone
set_option linter.unusedVariables false
set_option linter.unusedSimpArgs false

attribute [local go_sem high] eqA58
/-! ### spec_ClientOk: function 34 -/
set_option maxHeartbeats 8000000 in
set_option maxRecDepth 100000 in
theorem spec_ClientOk.calls (k : Nat) (a0_0 : Int) (a0_1 : Int) (a0_2 : Int) (a0_3 : Int) (a0_4 : Int) (a0_5 : Int) (a0_6 : Int) (a0_7 : Int) (a0_8 : Int) (A0_9 : Option Addr) (c0_9 : Nat) (l0_9 : List Int) (a0_10 : Int) (a0_11 : Int) (a0_12 : Int) (a0_13 : Int) (a0_14 : Int) (r : Bool) (w : World) (hr0_9 : Kd.C (Kd.int .i64) w A0_9 l0_9.length l0_9) (hc0_9 : l0_9.length ≤ c0_9) (h : spec_ClientOk.f k a0_0 a0_1 a0_2 a0_3 a0_4 a0_5 a0_6 a0_7 a0_8 l0_9 a0_10 a0_11 a0_12 a0_13 a0_14 = some r) :
    Calls Try.prog 34 #[.agg #[.int .i64 a0_0, .int .i64 a0_1, .int .i64 a0_2, .int .i64 a0_3, .int .i64 a0_4, .int .u64 a0_5, .int .u64 a0_6, .int .u64 a0_7, .int .u64 a0_8, .slice A0_9 l0_9.length c0_9, .int .i64 a0_10, .int .u64 a0_11, .int .u64 a0_12, .int .u64 a0_13, .int .u64 a0_14]] w fun e w' => e = .returned (.bool r) ∧ Below w.heap.size w w' := by
  have hu61 := Try.underlying61
  have hu58 := Try.underlying58
  have HR0_9 := Aside0.mk hr0_9
  have HC0_9 := Aside0.mk hc0_9
  clear hr0_9 hc0_9
  have HB := Aside0.mk (Below.refl w.heap.size w)
  have H : ((spec_l1In.f a0_1 1 7).bind fun t104 => (if t104 = true then ((spec_l1In.f a0_0 1 a0_1).bind fun t105 => (if t105 = true then (spec_ClientOk.j0 k (decide ((wrap64 (2 * a0_0)) ≤ a0_1)) a0_0 a0_1 a0_2 a0_3 a0_4 a0_5 a0_6 a0_7 a0_8 l0_9 a0_10 a0_11 a0_12 a0_13 a0_14) else (spec_ClientOk.j0 k true a0_0 a0_1 a0_2 a0_3 a0_4 a0_5 a0_6 a0_7 a0_8 l0_9 a0_10 a0_11 a0_12 a0_13 a0_14))) else (spec_ClientOk.j0 k true a0_0 a0_1 a0_2 a0_3 a0_4 a0_5 a0_6 a0_7 a0_8 l0_9 a0_10 a0_11 a0_12 a0_13 a0_14))) = some r := h
  clear h
  have HC2 := Aside0.mk H
  clear H
  go_enter Try.func34, Try.ntmps34
  go_upto_region 1 with (first | ((with_reducible refine gate_dst (N := 1) rfl ?_); (try (refine gate_guard (by rfl) ?_; dsimp only)); refine box_event ?hg (N := 1) ?hd (cs := #[.int .i64 a0_0, .int .i64 a0_1, .int .i64 a0_2, .int .i64 a0_3, .int .i64 a0_4, .int .u64 a0_5, .int .u64 a0_6, .int .u64 a0_7, .int .u64 a0_8, .slice A0_9 l0_9.length c0_9, .int .i64 a0_10, .int .u64 a0_11, .int .u64 a0_12, .int .u64 a0_13, .int .u64 a0_14]) (t := 61) ?hr ?_; (case hd => rfl); (case hg => rfl); (case hr => first | (go_simp; done) | (go_simp; rfl)); intro gb103 hg w3 hbox hb; have n0_ := Aside0.mk (below_step (by repeat (first | (with_reducible first | exact HB.out | apply below_alloc | apply pw_below_drewN | apply below_drew1) | exact HB.out)) hb); have n1_ := Aside0.mk (hbox); have n2_ := Aside0.mk ((by rw [hg]; exact (below_size (by repeat (first | (with_reducible first | exact HB.out | apply below_alloc | apply pw_below_drewN | apply below_drew1) | exact HB.out))) : w.heap.size ≤ gb103)); have n3_ := Aside0.mk ((by rw [hg]; exact (below_size (by repeat (first | (with_reducible first | exact HB.out | apply below_alloc | apply pw_below_drewN | apply below_drew1) | exact HB.out))) : w.heap.size ≤ gb103)); clear HB; have HB := n0_; have BK103 := n1_; have GW103 := n2_; have GE103 := n3_; clear n0_ n1_ n2_ n3_; clear hb hbox hg))
  repeat (go_quiet (first | ((with_reducible refine gate_dst (N := 1) rfl ?_); (try (refine gate_guard (by rfl) ?_; dsimp only)); refine box_event ?hg (N := 1) ?hd (cs := #[.int .i64 a0_0, .int .i64 a0_1, .int .i64 a0_2, .int .i64 a0_3, .int .i64 a0_4, .int .u64 a0_5, .int .u64 a0_6, .int .u64 a0_7, .int .u64 a0_8, .slice A0_9 l0_9.length c0_9, .int .i64 a0_10, .int .u64 a0_11, .int .u64 a0_12, .int .u64 a0_13, .int .u64 a0_14]) (t := 61) ?hr ?_; (case hd => rfl); (case hg => rfl); (case hr => first | (go_simp; done) | (go_simp; rfl)); intro gb103 hg w3 hbox hb; have n0_ := Aside0.mk (below_step (by repeat (first | (with_reducible first | exact HB.out | apply below_alloc | apply pw_below_drewN | apply below_drew1) | exact HB.out)) hb); have n1_ := Aside0.mk (hbox); have n2_ := Aside0.mk ((by rw [hg]; exact (below_size (by repeat (first | (with_reducible first | exact HB.out | apply below_alloc | apply pw_below_drewN | apply below_drew1) | exact HB.out))) : w.heap.size ≤ gb103)); have n3_ := Aside0.mk ((by rw [hg]; exact (below_size (by repeat (first | (with_reducible first | exact HB.out | apply below_alloc | apply pw_below_drewN | apply below_drew1) | exact HB.out))) : w.heap.size ≤ gb103)); clear HB; have HB := n0_; have BK103 := n1_; have GW103 := n2_; have GE103 := n3_; clear n0_ n1_ n2_ n3_; clear hb hbox hg)); go_upto_region 1 with (first | ((with_reducible refine gate_dst (N := 1) rfl ?_); (try (refine gate_guard (by rfl) ?_; dsimp only)); refine box_event ?hg (N := 1) ?hd (cs := #[.int .i64 a0_0, .int .i64 a0_1, .int .i64 a0_2, .int .i64 a0_3, .int .i64 a0_4, .int .u64 a0_5, .int .u64 a0_6, .int .u64 a0_7, .int .u64 a0_8, .slice A0_9 l0_9.length c0_9, .int .i64 a0_10, .int .u64 a0_11, .int .u64 a0_12, .int .u64 a0_13, .int .u64 a0_14]) (t := 61) ?hr ?_; (case hd => rfl); (case hg => rfl); (case hr => first | (go_simp; done) | (go_simp; rfl)); intro gb103 hg w3 hbox hb; have n0_ := Aside0.mk (below_step (by repeat (first | (with_reducible first | exact HB.out | apply below_alloc | apply pw_below_drewN | apply below_drew1) | exact HB.out)) hb); have n1_ := Aside0.mk (hbox); have n2_ := Aside0.mk ((by rw [hg]; exact (below_size (by repeat (first | (with_reducible first | exact HB.out | apply below_alloc | apply pw_below_drewN | apply below_drew1) | exact HB.out))) : w.heap.size ≤ gb103)); have n3_ := Aside0.mk ((by rw [hg]; exact (below_size (by repeat (first | (with_reducible first | exact HB.out | apply below_alloc | apply pw_below_drewN | apply below_drew1) | exact HB.out))) : w.heap.size ≤ gb103)); clear HB; have HB := n0_; have BK103 := n1_; have GW103 := n2_; have GE103 := n3_; clear n0_ n1_ n2_ n3_; clear hb hbox hg)))
  (try simp only [Act.put, List.setIfInBounds_toArray, List.set_cons_zero, List.set_cons_succ])
  go_cut [23] (fun v23 wc => ∃ (kq : Nat) (x23_1 : Bool), v23 = .bool x23_1 ∧ Aside0 (spec_ClientOk.j0 kq x23_1 a0_0 a0_1 a0_2 a0_3 a0_4 a0_5 a0_6 a0_7 a0_8 l0_9 a0_10 a0_11 a0_12 a0_13 a0_14 = some r) ∧ Aside0 (kq ≤ k) ∧ Aside0 (wc.heap[gb103]? = some (.cells #[.int .i64 a0_0, .int .i64 a0_1, .int .i64 a0_2, .int .i64 a0_3, .int .i64 a0_4, .int .u64 a0_5, .int .u64 a0_6, .int .u64 a0_7, .int .u64 a0_8, (.slice A0_9 l0_9.length c0_9), .int .i64 a0_10, .int .u64 a0_11, .int .u64 a0_12, .int .u64 a0_13, .int .u64 a0_14] 61 (0, 0))) ∧ Aside0 (Below w.heap.size w wc))
  case first =>
    have H := HC2.out
    clear HC2
    replace H := Option.bind_eq_some_iff.mp H
    obtain ⟨t104, A40, H⟩ := H
    replace H : (if t104 = true then ((spec_l1In.f a0_0 1 a0_1).bind fun t105 => (if t105 = true then (spec_ClientOk.j0 k (decide ((wrap64 (2 * a0_0)) ≤ a0_1)) a0_0 a0_1 a0_2 a0_3 a0_4 a0_5 a0_6 a0_7 a0_8 l0_9 a0_10 a0_11 a0_12 a0_13 a0_14) else (spec_ClientOk.j0 k true a0_0 a0_1 a0_2 a0_3 a0_4 a0_5 a0_6 a0_7 a0_8 l0_9 a0_10 a0_11 a0_12 a0_13 a0_14))) else (spec_ClientOk.j0 k true a0_0 a0_1 a0_2 a0_3 a0_4 a0_5 a0_6 a0_7 a0_8 l0_9 a0_10 a0_11 a0_12 a0_13 a0_14)) = some r := H
    have A4 := Aside0.mk A40
    clear A40
    by_cases c5 : t104 = true
    · subst c5
      have H1 : ((spec_l1In.f a0_0 1 a0_1).bind fun t105 => (if t105 = true then (spec_ClientOk.j0 k (decide ((wrap64 (2 * a0_0)) ≤ a0_1)) a0_0 a0_1 a0_2 a0_3 a0_4 a0_5 a0_6 a0_7 a0_8 l0_9 a0_10 a0_11 a0_12 a0_13 a0_14) else (spec_ClientOk.j0 k true a0_0 a0_1 a0_2 a0_3 a0_4 a0_5 a0_6 a0_7 a0_8 l0_9 a0_10 a0_11 a0_12 a0_13 a0_14))) = some r := by rw [if_pos rfl] at H; exact H
      clear H
      have H := H1
      clear H1
      replace H := Option.bind_eq_some_iff.mp H
      obtain ⟨t105, A60, H⟩ := H
      replace H : (if t105 = true then (spec_ClientOk.j0 k (decide ((wrap64 (2 * a0_0)) ≤ a0_1)) a0_0 a0_1 a0_2 a0_3 a0_4 a0_5 a0_6 a0_7 a0_8 l0_9 a0_10 a0_11 a0_12 a0_13 a0_14) else (spec_ClientOk.j0 k true a0_0 a0_1 a0_2 a0_3 a0_4 a0_5 a0_6 a0_7 a0_8 l0_9 a0_10 a0_11 a0_12 a0_13 a0_14)) = some r := H
      have A6 := Aside0.mk A60
      clear A60
      by_cases c7 : t105 = true
      · subst c7
        have H1 : (spec_ClientOk.j0 k (decide ((wrap64 (2 * a0_0)) ≤ a0_1)) a0_0 a0_1 a0_2 a0_3 a0_4 a0_5 a0_6 a0_7 a0_8 l0_9 a0_10 a0_11 a0_12 a0_13 a0_14) = some r := by rw [if_pos rfl] at H; exact H
        clear H
        have H := H1
        clear H1
        have H' := Aside0.mk H
        clear H
        have hcz8_0 : w3.cell? ⟨gb103, 0, none⟩ = some (.int .i64 a0_0) := (blk_cell BK103.out 0).trans rfl
        have hcz8_1 : w3.cell? ⟨gb103, 1, none⟩ = some (.int .i64 a0_1) := (blk_cell BK103.out 1).trans rfl
        have hcz8_2 : w3.cell? ⟨gb103, 2, none⟩ = some (.int .i64 a0_2) := (blk_cell BK103.out 2).trans rfl
        have hcz8_3 : w3.cell? ⟨gb103, 3, none⟩ = some (.int .i64 a0_3) := (blk_cell BK103.out 3).trans rfl
        have hcz8_4 : w3.cell? ⟨gb103, 4, none⟩ = some (.int .i64 a0_4) := (blk_cell BK103.out 4).trans rfl
        have hcz8_5 : w3.cell? ⟨gb103, 5, none⟩ = some (.int .u64 a0_5) := (blk_cell BK103.out 5).trans rfl
        have hcz8_6 : w3.cell? ⟨gb103, 6, none⟩ = some (.int .u64 a0_6) := (blk_cell BK103.out 6).trans rfl
        have hcz8_7 : w3.cell? ⟨gb103, 7, none⟩ = some (.int .u64 a0_7) := (blk_cell BK103.out 7).trans rfl
        have hcz8_8 : w3.cell? ⟨gb103, 8, none⟩ = some (.int .u64 a0_8) := (blk_cell BK103.out 8).trans rfl
        have hcz8_9 : w3.cell? ⟨gb103, 9, none⟩ = some (.slice A0_9 l0_9.length c0_9) := (blk_cell BK103.out 9).trans rfl
        have hcz8_10 : w3.cell? ⟨gb103, 10, none⟩ = some (.int .i64 a0_10) := (blk_cell BK103.out 10).trans rfl
        have hcz8_11 : w3.cell? ⟨gb103, 11, none⟩ = some (.int .u64 a0_11) := (blk_cell BK103.out 11).trans rfl
        have hcz8_12 : w3.cell? ⟨gb103, 12, none⟩ = some (.int .u64 a0_12) := (blk_cell BK103.out 12).trans rfl
        have hcz8_13 : w3.cell? ⟨gb103, 13, none⟩ = some (.int .u64 a0_13) := (blk_cell BK103.out 13).trans rfl
        have hcz8_14 : w3.cell? ⟨gb103, 14, none⟩ = some (.int .u64 a0_14) := (blk_cell BK103.out 14).trans rfl
        have hfz8_0 := blk_frozen BK103.out 0
        have hfz8_1 := blk_frozen BK103.out 1
        have hfz8_2 := blk_frozen BK103.out 2
        have hfz8_3 := blk_frozen BK103.out 3
        have hfz8_4 := blk_frozen BK103.out 4
        have hfz8_5 := blk_frozen BK103.out 5
        have hfz8_6 := blk_frozen BK103.out 6
        have hfz8_7 := blk_frozen BK103.out 7
        have hfz8_8 := blk_frozen BK103.out 8
        have hfz8_9 := blk_frozen BK103.out 9
        have hfz8_10 := blk_frozen BK103.out 10
        have hfz8_11 := blk_frozen BK103.out 11
        have hfz8_12 := blk_frozen BK103.out 12
        have hfz8_13 := blk_frozen BK103.out 13
        have hfz8_14 := blk_frozen BK103.out 14
        go_wp2_with (first | (go_at_call 37; (with_reducible refine (spec_l1In.calls a0_1 1 7 true _ A4.out).mono ?_); rintro e w' ⟨rfl, ⟨nd, rfl⟩⟩; (try first | exact ⟨rfl, _, World.drewN_drewN _ _ _⟩ | exact ⟨rfl, _, Eq.trans (World.drewN_drewN _ _ _) (congrArg (World.drewN _) (Nat.add_assoc _ _ _))⟩)) | (go_at_call 37; (with_reducible refine (spec_l1In.calls a0_0 1 a0_1 true _ A6.out).mono ?_); rintro e w' ⟨rfl, ⟨nd, rfl⟩⟩; (try first | exact ⟨rfl, _, World.drewN_drewN _ _ _⟩ | exact ⟨rfl, _, Eq.trans (World.drewN_drewN _ _ _) (congrArg (World.drewN _) (Nat.add_assoc _ _ _))⟩)))
        repeat (go_quiet (first | (go_at_call 37; (with_reducible refine (spec_l1In.calls a0_1 1 7 true _ A4.out).mono ?_); rintro e w' ⟨rfl, ⟨nd, rfl⟩⟩; (try first | exact ⟨rfl, _, World.drewN_drewN _ _ _⟩ | exact ⟨rfl, _, Eq.trans (World.drewN_drewN _ _ _) (congrArg (World.drewN _) (Nat.add_assoc _ _ _))⟩)) | (go_at_call 37; (with_reducible refine (spec_l1In.calls a0_0 1 a0_1 true _ A6.out).mono ?_); rintro e w' ⟨rfl, ⟨nd, rfl⟩⟩; (try first | exact ⟨rfl, _, World.drewN_drewN _ _ _⟩ | exact ⟨rfl, _, Eq.trans (World.drewN_drewN _ _ _) (congrArg (World.drewN _) (Nat.add_assoc _ _ _))⟩))); try go_wp2_with (first | (go_at_call 37; (with_reducible refine (spec_l1In.calls a0_1 1 7 true _ A4.out).mono ?_); rintro e w' ⟨rfl, ⟨nd, rfl⟩⟩; (try first | exact ⟨rfl, _, World.drewN_drewN _ _ _⟩ | exact ⟨rfl, _, Eq.trans (World.drewN_drewN _ _ _) (congrArg (World.drewN _) (Nat.add_assoc _ _ _))⟩)) | (go_at_call 37; (with_reducible refine (spec_l1In.calls a0_0 1 a0_1 true _ A6.out).mono ?_); rintro e w' ⟨rfl, ⟨nd, rfl⟩⟩; (try first | exact ⟨rfl, _, World.drewN_drewN _ _ _⟩ | exact ⟨rfl, _, Eq.trans (World.drewN_drewN _ _ _) (congrArg (World.drewN _) (Nat.add_assoc _ _ _))⟩))))
        go_meet
        case rel => exact ⟨_, (decide ((wrap64 (2 * a0_0)) ≤ a0_1)), (by first | rfl | (simp; done) | (simp [*]; done)), H', ⟨by first | omega | exact Nat.le_refl _⟩, ⟨by (with_reducible repeat (first | refine blk_drewN ?_ _ | refine blk_drew ?_ | refine blk_alloc ?_ _)); exact BK103.out⟩, ⟨by repeat (first | (with_reducible first | exact HB.out | apply below_alloc | apply pw_below_drewN | apply below_drew1 | refine below_set ?_ GE103.out) | exact HB.out)⟩⟩
      · replace c7 := Bool.eq_false_iff.mpr c7
        subst c7
        have H1 : (spec_ClientOk.j0 k true a0_0 a0_1 a0_2 a0_3 a0_4 a0_5 a0_6 a0_7 a0_8 l0_9 a0_10 a0_11 a0_12 a0_13 a0_14) = some r := by rw [if_neg (show ¬ (false = true) by decide)] at H; exact H
        clear H
        have H := H1
        clear H1
        have H' := Aside0.mk H
        clear H
        have hcz9_0 : w3.cell? ⟨gb103, 0, none⟩ = some (.int .i64 a0_0) := (blk_cell BK103.out 0).trans rfl
        have hcz9_1 : w3.cell? ⟨gb103, 1, none⟩ = some (.int .i64 a0_1) := (blk_cell BK103.out 1).trans rfl
        have hcz9_2 : w3.cell? ⟨gb103, 2, none⟩ = some (.int .i64 a0_2) := (blk_cell BK103.out 2).trans rfl
        have hcz9_3 : w3.cell? ⟨gb103, 3, none⟩ = some (.int .i64 a0_3) := (blk_cell BK103.out 3).trans rfl
        have hcz9_4 : w3.cell? ⟨gb103, 4, none⟩ = some (.int .i64 a0_4) := (blk_cell BK103.out 4).trans rfl
        have hcz9_5 : w3.cell? ⟨gb103, 5, none⟩ = some (.int .u64 a0_5) := (blk_cell BK103.out 5).trans rfl
        have hcz9_6 : w3.cell? ⟨gb103, 6, none⟩ = some (.int .u64 a0_6) := (blk_cell BK103.out 6).trans rfl
        have hcz9_7 : w3.cell? ⟨gb103, 7, none⟩ = some (.int .u64 a0_7) := (blk_cell BK103.out 7).trans rfl
        have hcz9_8 : w3.cell? ⟨gb103, 8, none⟩ = some (.int .u64 a0_8) := (blk_cell BK103.out 8).trans rfl
        have hcz9_9 : w3.cell? ⟨gb103, 9, none⟩ = some (.slice A0_9 l0_9.length c0_9) := (blk_cell BK103.out 9).trans rfl
        have hcz9_10 : w3.cell? ⟨gb103, 10, none⟩ = some (.int .i64 a0_10) := (blk_cell BK103.out 10).trans rfl
        have hcz9_11 : w3.cell? ⟨gb103, 11, none⟩ = some (.int .u64 a0_11) := (blk_cell BK103.out 11).trans rfl
        have hcz9_12 : w3.cell? ⟨gb103, 12, none⟩ = some (.int .u64 a0_12) := (blk_cell BK103.out 12).trans rfl
        have hcz9_13 : w3.cell? ⟨gb103, 13, none⟩ = some (.int .u64 a0_13) := (blk_cell BK103.out 13).trans rfl
        have hcz9_14 : w3.cell? ⟨gb103, 14, none⟩ = some (.int .u64 a0_14) := (blk_cell BK103.out 14).trans rfl
        have hfz9_0 := blk_frozen BK103.out 0
        have hfz9_1 := blk_frozen BK103.out 1
        have hfz9_2 := blk_frozen BK103.out 2
        have hfz9_3 := blk_frozen BK103.out 3
        have hfz9_4 := blk_frozen BK103.out 4
        have hfz9_5 := blk_frozen BK103.out 5
        have hfz9_6 := blk_frozen BK103.out 6
        have hfz9_7 := blk_frozen BK103.out 7
        have hfz9_8 := blk_frozen BK103.out 8
        have hfz9_9 := blk_frozen BK103.out 9
        have hfz9_10 := blk_frozen BK103.out 10
        have hfz9_11 := blk_frozen BK103.out 11
        have hfz9_12 := blk_frozen BK103.out 12
        have hfz9_13 := blk_frozen BK103.out 13
        have hfz9_14 := blk_frozen BK103.out 14
        go_wp2_with (first | (go_at_call 37; (with_reducible refine (spec_l1In.calls a0_1 1 7 true _ A4.out).mono ?_); rintro e w' ⟨rfl, ⟨nd, rfl⟩⟩; (try first | exact ⟨rfl, _, World.drewN_drewN _ _ _⟩ | exact ⟨rfl, _, Eq.trans (World.drewN_drewN _ _ _) (congrArg (World.drewN _) (Nat.add_assoc _ _ _))⟩)) | (go_at_call 37; (with_reducible refine (spec_l1In.calls a0_0 1 a0_1 false _ A6.out).mono ?_); rintro e w' ⟨rfl, ⟨nd, rfl⟩⟩; (try first | exact ⟨rfl, _, World.drewN_drewN _ _ _⟩ | exact ⟨rfl, _, Eq.trans (World.drewN_drewN _ _ _) (congrArg (World.drewN _) (Nat.add_assoc _ _ _))⟩)))
        repeat (go_quiet (first | (go_at_call 37; (with_reducible refine (spec_l1In.calls a0_1 1 7 true _ A4.out).mono ?_); rintro e w' ⟨rfl, ⟨nd, rfl⟩⟩; (try first | exact ⟨rfl, _, World.drewN_drewN _ _ _⟩ | exact ⟨rfl, _, Eq.trans (World.drewN_drewN _ _ _) (congrArg (World.drewN _) (Nat.add_assoc _ _ _))⟩)) | (go_at_call 37; (with_reducible refine (spec_l1In.calls a0_0 1 a0_1 false _ A6.out).mono ?_); rintro e w' ⟨rfl, ⟨nd, rfl⟩⟩; (try first | exact ⟨rfl, _, World.drewN_drewN _ _ _⟩ | exact ⟨rfl, _, Eq.trans (World.drewN_drewN _ _ _) (congrArg (World.drewN _) (Nat.add_assoc _ _ _))⟩))); try go_wp2_with (first | (go_at_call 37; (with_reducible refine (spec_l1In.calls a0_1 1 7 true _ A4.out).mono ?_); rintro e w' ⟨rfl, ⟨nd, rfl⟩⟩; (try first | exact ⟨rfl, _, World.drewN_drewN _ _ _⟩ | exact ⟨rfl, _, Eq.trans (World.drewN_drewN _ _ _) (congrArg (World.drewN _) (Nat.add_assoc _ _ _))⟩)) | (go_at_call 37; (with_reducible refine (spec_l1In.calls a0_0 1 a0_1 false _ A6.out).mono ?_); rintro e w' ⟨rfl, ⟨nd, rfl⟩⟩; (try first | exact ⟨rfl, _, World.drewN_drewN _ _ _⟩ | exact ⟨rfl, _, Eq.trans (World.drewN_drewN _ _ _) (congrArg (World.drewN _) (Nat.add_assoc _ _ _))⟩))))
        go_meet
        case rel => exact ⟨_, (true), (by first | rfl | (simp; done) | (simp [*]; done)), H', ⟨by first | omega | exact Nat.le_refl _⟩, ⟨by (with_reducible repeat (first | refine blk_drewN ?_ _ | refine blk_drew ?_ | refine blk_alloc ?_ _)); exact BK103.out⟩, ⟨by repeat (first | (with_reducible first | exact HB.out | apply below_alloc | apply pw_below_drewN | apply below_drew1 | refine below_set ?_ GE103.out) | exact HB.out)⟩⟩
    · replace c5 := Bool.eq_false_iff.mpr c5
      subst c5
      have H1 : (spec_ClientOk.j0 k true a0_0 a0_1 a0_2 a0_3 a0_4 a0_5 a0_6 a0_7 a0_8 l0_9 a0_10 a0_11 a0_12 a0_13 a0_14) = some r := by rw [if_neg (show ¬ (false = true) by decide)] at H; exact H
      clear H
      have H := H1
      clear H1
      have H' := Aside0.mk H
      clear H
      have hcz10_0 : w3.cell? ⟨gb103, 0, none⟩ = some (.int .i64 a0_0) := (blk_cell BK103.out 0).trans rfl
      have hcz10_1 : w3.cell? ⟨gb103, 1, none⟩ = some (.int .i64 a0_1) := (blk_cell BK103.out 1).trans rfl
      have hcz10_2 : w3.cell? ⟨gb103, 2, none⟩ = some (.int .i64 a0_2) := (blk_cell BK103.out 2).trans rfl
      have hcz10_3 : w3.cell? ⟨gb103, 3, none⟩ = some (.int .i64 a0_3) := (blk_cell BK103.out 3).trans rfl
      have hcz10_4 : w3.cell? ⟨gb103, 4, none⟩ = some (.int .i64 a0_4) := (blk_cell BK103.out 4).trans rfl
      have hcz10_5 : w3.cell? ⟨gb103, 5, none⟩ = some (.int .u64 a0_5) := (blk_cell BK103.out 5).trans rfl
      have hcz10_6 : w3.cell? ⟨gb103, 6, none⟩ = some (.int .u64 a0_6) := (blk_cell BK103.out 6).trans rfl
      have hcz10_7 : w3.cell? ⟨gb103, 7, none⟩ = some (.int .u64 a0_7) := (blk_cell BK103.out 7).trans rfl
      have hcz10_8 : w3.cell? ⟨gb103, 8, none⟩ = some (.int .u64 a0_8) := (blk_cell BK103.out 8).trans rfl
      have hcz10_9 : w3.cell? ⟨gb103, 9, none⟩ = some (.slice A0_9 l0_9.length c0_9) := (blk_cell BK103.out 9).trans rfl
      have hcz10_10 : w3.cell? ⟨gb103, 10, none⟩ = some (.int .i64 a0_10) := (blk_cell BK103.out 10).trans rfl
      have hcz10_11 : w3.cell? ⟨gb103, 11, none⟩ = some (.int .u64 a0_11) := (blk_cell BK103.out 11).trans rfl
      have hcz10_12 : w3.cell? ⟨gb103, 12, none⟩ = some (.int .u64 a0_12) := (blk_cell BK103.out 12).trans rfl
      have hcz10_13 : w3.cell? ⟨gb103, 13, none⟩ = some (.int .u64 a0_13) := (blk_cell BK103.out 13).trans rfl
      have hcz10_14 : w3.cell? ⟨gb103, 14, none⟩ = some (.int .u64 a0_14) := (blk_cell BK103.out 14).trans rfl
      have hfz10_0 := blk_frozen BK103.out 0
      have hfz10_1 := blk_frozen BK103.out 1
      have hfz10_2 := blk_frozen BK103.out 2
      have hfz10_3 := blk_frozen BK103.out 3
      have hfz10_4 := blk_frozen BK103.out 4
      have hfz10_5 := blk_frozen BK103.out 5
      have hfz10_6 := blk_frozen BK103.out 6
      have hfz10_7 := blk_frozen BK103.out 7
      have hfz10_8 := blk_frozen BK103.out 8
      have hfz10_9 := blk_frozen BK103.out 9
      have hfz10_10 := blk_frozen BK103.out 10
      have hfz10_11 := blk_frozen BK103.out 11
      have hfz10_12 := blk_frozen BK103.out 12
      have hfz10_13 := blk_frozen BK103.out 13
      have hfz10_14 := blk_frozen BK103.out 14
      go_wp2_with (first | (go_at_call 37; (with_reducible refine (spec_l1In.calls a0_1 1 7 false _ A4.out).mono ?_); rintro e w' ⟨rfl, ⟨nd, rfl⟩⟩; (try first | exact ⟨rfl, _, World.drewN_drewN _ _ _⟩ | exact ⟨rfl, _, Eq.trans (World.drewN_drewN _ _ _) (congrArg (World.drewN _) (Nat.add_assoc _ _ _))⟩)))
      repeat (go_quiet (first | (go_at_call 37; (with_reducible refine (spec_l1In.calls a0_1 1 7 false _ A4.out).mono ?_); rintro e w' ⟨rfl, ⟨nd, rfl⟩⟩; (try first | exact ⟨rfl, _, World.drewN_drewN _ _ _⟩ | exact ⟨rfl, _, Eq.trans (World.drewN_drewN _ _ _) (congrArg (World.drewN _) (Nat.add_assoc _ _ _))⟩))); try go_wp2_with (first | (go_at_call 37; (with_reducible refine (spec_l1In.calls a0_1 1 7 false _ A4.out).mono ?_); rintro e w' ⟨rfl, ⟨nd, rfl⟩⟩; (try first | exact ⟨rfl, _, World.drewN_drewN _ _ _⟩ | exact ⟨rfl, _, Eq.trans (World.drewN_drewN _ _ _) (congrArg (World.drewN _) (Nat.add_assoc _ _ _))⟩))))
      go_meet
      case rel => exact ⟨_, (true), (by first | rfl | (simp; done) | (simp [*]; done)), H', ⟨by first | omega | exact Nat.le_refl _⟩, ⟨by (with_reducible repeat (first | refine blk_drewN ?_ _ | refine blk_drew ?_ | refine blk_alloc ?_ _)); exact BK103.out⟩, ⟨by repeat (first | (with_reducible first | exact HB.out | apply below_alloc | apply pw_below_drewN | apply below_drew1 | refine below_set ?_ GE103.out) | exact HB.out)⟩⟩
  case rest =>
    clear HC2
    try clear p2
    try clear c3
    try clear c5
    try clear p6
    try clear c7
    try clear hcz10_0
    try clear hcz10_1
    try clear hcz10_10
    try clear hcz10_11
    try clear hcz10_12
    try clear hcz10_13
    try clear hcz10_14
    try clear hcz10_2
    try clear hcz10_3
    try clear hcz10_4
    try clear hcz10_5
    try clear hcz10_6
    try clear hcz10_7
    try clear hcz10_8
    try clear hcz10_9
    try clear hcz8_0
    try clear hcz8_1
    try clear hcz8_10
    try clear hcz8_11
    try clear hcz8_12
    try clear hcz8_13
    try clear hcz8_14
    try clear hcz8_2
    try clear hcz8_3
    try clear hcz8_4
    try clear hcz8_5
    try clear hcz8_6
    try clear hcz8_7
    try clear hcz8_8
    try clear hcz8_9
    try clear hcz9_0
    try clear hcz9_1
    try clear hcz9_10
    try clear hcz9_11
    try clear hcz9_12
    try clear hcz9_13
    try clear hcz9_14
    try clear hcz9_2
    try clear hcz9_3
    try clear hcz9_4
    try clear hcz9_5
    try clear hcz9_6
    try clear hcz9_7
    try clear hcz9_8
    try clear hcz9_9
    try clear hfz10_0
    try clear hfz10_1
    try clear hfz10_10
    try clear hfz10_11
    try clear hfz10_12
    try clear hfz10_13
    try clear hfz10_14
    try clear hfz10_2
    try clear hfz10_3
    try clear hfz10_4
    try clear hfz10_5
    try clear hfz10_6
    try clear hfz10_7
    try clear hfz10_8
    try clear hfz10_9
    try clear hfz8_0
    try clear hfz8_1
    try clear hfz8_10
    try clear hfz8_11
    try clear hfz8_12
    try clear hfz8_13
    try clear hfz8_14
    try clear hfz8_2
    try clear hfz8_3
    try clear hfz8_4
    try clear hfz8_5
    try clear hfz8_6
    try clear hfz8_7
    try clear hfz8_8
    try clear hfz8_9
    try clear hfz9_0
    try clear hfz9_1
    try clear hfz9_10
    try clear hfz9_11
    try clear hfz9_12
    try clear hfz9_13
    try clear hfz9_14
    try clear hfz9_2
    try clear hfz9_3
    try clear hfz9_4
    try clear hfz9_5
    try clear hfz9_6
    try clear hfz9_7
    try clear hfz9_8
    try clear hfz9_9
    obtain ⟨kq, x23_1, rfl, HA, HJ1, BK103, HB⟩ := hcut
    cases kq with
    | zero => exact absurd HA.out (by simp [spec_ClientOk.j0])
    | succ kj1 =>
      have H := HA.out
      clear HA
      simp only [spec_ClientOk.j0] at H
      by_cases c11 : x23_1 = true
      · subst c11
        have H1 : (some false) = some r := by rw [if_pos rfl] at H; exact H
        clear H
        have H := H1
        clear H1
        obtain rfl := Option.some.inj H
        go_wp2
        repeat (go_quiet (fail); try go_wp2)
        go_ret
        exact ⟨by first | rfl | (simp [errW_none, errW_some] <;> rfl) | (simp [*, errW_none, errW_some] <;> rfl), by repeat (first | (with_reducible first | exact HB.out | apply below_alloc | apply pw_below_drewN | apply below_drew1 | refine below_set ?_ GE103.out) | exact HB.out)⟩
      · replace c11 := Bool.eq_false_iff.mpr c11
        subst c11
        have H1 : ((spec_l1In.f a0_2 0 1000000).bind fun t106 => (if t106 = true then ((spec_l10Pins.f a0_10 a0_11 a0_12 a0_13 a0_14).bind fun t107 => (spec_ClientOk.j1 kj1 (!t107) a0_0 a0_1 a0_2 a0_3 a0_4 a0_5 a0_6 a0_7 a0_8 l0_9 a0_10 a0_11 a0_12 a0_13 a0_14)) else (spec_ClientOk.j1 kj1 true a0_0 a0_1 a0_2 a0_3 a0_4 a0_5 a0_6 a0_7 a0_8 l0_9 a0_10 a0_11 a0_12 a0_13 a0_14))) = some r := by rw [if_neg (show ¬ (false = true) by decide)] at H; exact H
        clear H
        have H := H1
        clear H1
        have HC12 := Aside0.mk H
        clear H
        go_upto_region 3 with (fail)
        repeat (go_quiet (fail); go_upto_region 3 with (fail))
        go_cut [33] (fun v33 wc => ∃ (kq : Nat) (x33_11 : Bool), v33 = .bool x33_11 ∧ Aside0 (spec_ClientOk.j1 kq x33_11 a0_0 a0_1 a0_2 a0_3 a0_4 a0_5 a0_6 a0_7 a0_8 l0_9 a0_10 a0_11 a0_12 a0_13 a0_14 = some r) ∧ Aside0 (kq ≤ kj1) ∧ Aside0 (wc.heap[gb103]? = some (.cells #[.int .i64 a0_0, .int .i64 a0_1, .int .i64 a0_2, .int .i64 a0_3, .int .i64 a0_4, .int .u64 a0_5, .int .u64 a0_6, .int .u64 a0_7, .int .u64 a0_8, (.slice A0_9 l0_9.length c0_9), .int .i64 a0_10, .int .u64 a0_11, .int .u64 a0_12, .int .u64 a0_13, .int .u64 a0_14] 61 (0, 0))) ∧ Aside0 (Below w.heap.size w wc))
        case first =>
          have H := HC12.out
          clear HC12
          replace H := Option.bind_eq_some_iff.mp H
          obtain ⟨t106, A130, H⟩ := H
          replace H : (if t106 = true then ((spec_l10Pins.f a0_10 a0_11 a0_12 a0_13 a0_14).bind fun t107 => (spec_ClientOk.j1 kj1 (!t107) a0_0 a0_1 a0_2 a0_3 a0_4 a0_5 a0_6 a0_7 a0_8 l0_9 a0_10 a0_11 a0_12 a0_13 a0_14)) else (spec_ClientOk.j1 kj1 true a0_0 a0_1 a0_2 a0_3 a0_4 a0_5 a0_6 a0_7 a0_8 l0_9 a0_10 a0_11 a0_12 a0_13 a0_14)) = some r := H
          have A13 := Aside0.mk A130
          clear A130
          by_cases c14 : t106 = true
          · subst c14
            have H1 : ((spec_l10Pins.f a0_10 a0_11 a0_12 a0_13 a0_14).bind fun t107 => (spec_ClientOk.j1 kj1 (!t107) a0_0 a0_1 a0_2 a0_3 a0_4 a0_5 a0_6 a0_7 a0_8 l0_9 a0_10 a0_11 a0_12 a0_13 a0_14)) = some r := by rw [if_pos rfl] at H; exact H
            clear H
            have H := H1
            clear H1
            replace H := Option.bind_eq_some_iff.mp H
            obtain ⟨t107, A150, H⟩ := H
            replace H : (spec_ClientOk.j1 kj1 (!t107) a0_0 a0_1 a0_2 a0_3 a0_4 a0_5 a0_6 a0_7 a0_8 l0_9 a0_10 a0_11 a0_12 a0_13 a0_14) = some r := H
            have A15 := Aside0.mk A150
            clear A150
            have H' := Aside0.mk H
            clear H
            have hcz16_0 : wc.cell? ⟨gb103, 0, none⟩ = some (.int .i64 a0_0) := (blk_cell BK103.out 0).trans rfl
            have hcz16_1 : wc.cell? ⟨gb103, 1, none⟩ = some (.int .i64 a0_1) := (blk_cell BK103.out 1).trans rfl
            have hcz16_2 : wc.cell? ⟨gb103, 2, none⟩ = some (.int .i64 a0_2) := (blk_cell BK103.out 2).trans rfl
            have hcz16_3 : wc.cell? ⟨gb103, 3, none⟩ = some (.int .i64 a0_3) := (blk_cell BK103.out 3).trans rfl
            have hcz16_4 : wc.cell? ⟨gb103, 4, none⟩ = some (.int .i64 a0_4) := (blk_cell BK103.out 4).trans rfl
            have hcz16_5 : wc.cell? ⟨gb103, 5, none⟩ = some (.int .u64 a0_5) := (blk_cell BK103.out 5).trans rfl
            have hcz16_6 : wc.cell? ⟨gb103, 6, none⟩ = some (.int .u64 a0_6) := (blk_cell BK103.out 6).trans rfl
            have hcz16_7 : wc.cell? ⟨gb103, 7, none⟩ = some (.int .u64 a0_7) := (blk_cell BK103.out 7).trans rfl
            have hcz16_8 : wc.cell? ⟨gb103, 8, none⟩ = some (.int .u64 a0_8) := (blk_cell BK103.out 8).trans rfl
            have hcz16_9 : wc.cell? ⟨gb103, 9, none⟩ = some (.slice A0_9 l0_9.length c0_9) := (blk_cell BK103.out 9).trans rfl
            have hcz16_10 : wc.cell? ⟨gb103, 10, none⟩ = some (.int .i64 a0_10) := (blk_cell BK103.out 10).trans rfl
            have hcz16_11 : wc.cell? ⟨gb103, 11, none⟩ = some (.int .u64 a0_11) := (blk_cell BK103.out 11).trans rfl
            have hcz16_12 : wc.cell? ⟨gb103, 12, none⟩ = some (.int .u64 a0_12) := (blk_cell BK103.out 12).trans rfl
            have hcz16_13 : wc.cell? ⟨gb103, 13, none⟩ = some (.int .u64 a0_13) := (blk_cell BK103.out 13).trans rfl
            have hcz16_14 : wc.cell? ⟨gb103, 14, none⟩ = some (.int .u64 a0_14) := (blk_cell BK103.out 14).trans rfl
            have hfz16_0 := blk_frozen BK103.out 0
            have hfz16_1 := blk_frozen BK103.out 1
            have hfz16_2 := blk_frozen BK103.out 2
            have hfz16_3 := blk_frozen BK103.out 3
            have hfz16_4 := blk_frozen BK103.out 4
            have hfz16_5 := blk_frozen BK103.out 5
            have hfz16_6 := blk_frozen BK103.out 6
            have hfz16_7 := blk_frozen BK103.out 7
            have hfz16_8 := blk_frozen BK103.out 8
            have hfz16_9 := blk_frozen BK103.out 9
            have hfz16_10 := blk_frozen BK103.out 10
            have hfz16_11 := blk_frozen BK103.out 11
            have hfz16_12 := blk_frozen BK103.out 12
            have hfz16_13 := blk_frozen BK103.out 13
            have hfz16_14 := blk_frozen BK103.out 14
            go_wp2_with (first | (go_at_call 37; (with_reducible refine (spec_l1In.calls a0_2 0 1000000 true _ A13.out).mono ?_); rintro e w' ⟨rfl, ⟨nd, rfl⟩⟩; (try first | exact ⟨rfl, _, World.drewN_drewN _ _ _⟩ | exact ⟨rfl, _, Eq.trans (World.drewN_drewN _ _ _) (congrArg (World.drewN _) (Nat.add_assoc _ _ _))⟩)) | (go_at_call 47; (with_reducible refine (spec_l10Pins.calls a0_10 a0_11 a0_12 a0_13 a0_14 t107 _ A15.out).mono ?_); rintro e w17 ⟨rfl, hb⟩; have n0_ := Aside0.mk (blk_below (g := gb103) (o := .cells #[.int .i64 a0_0, .int .i64 a0_1, .int .i64 a0_2, .int .i64 a0_3, .int .i64 a0_4, .int .u64 a0_5, .int .u64 a0_6, .int .u64 a0_7, .int .u64 a0_8, .slice A0_9 l0_9.length c0_9, .int .i64 a0_10, .int .u64 a0_11, .int .u64 a0_12, .int .u64 a0_13, .int .u64 a0_14] 61 (0, 0)) (by (with_reducible repeat (first | refine blk_drewN ?_ _ | refine blk_drew ?_ | refine blk_alloc ?_ _)); exact BK103.out) hb); have n1_ := Aside0.mk (below_step (by repeat (first | (with_reducible first | exact HB.out | apply below_alloc | apply pw_below_drewN | apply below_drew1 | refine below_set ?_ GE103.out) | exact HB.out)) hb); clear BK103; clear HB; have BK103 := n0_; have HB := n1_; clear n0_ n1_; (try clear hb); (try clear hb2); (try clear hk); (try clear hi)))
            repeat (go_quiet (first | (go_at_call 37; (with_reducible refine (spec_l1In.calls a0_2 0 1000000 true _ A13.out).mono ?_); rintro e w' ⟨rfl, ⟨nd, rfl⟩⟩; (try first | exact ⟨rfl, _, World.drewN_drewN _ _ _⟩ | exact ⟨rfl, _, Eq.trans (World.drewN_drewN _ _ _) (congrArg (World.drewN _) (Nat.add_assoc _ _ _))⟩)) | (go_at_call 47; (with_reducible refine (spec_l10Pins.calls a0_10 a0_11 a0_12 a0_13 a0_14 t107 _ A15.out).mono ?_); rintro e w17 ⟨rfl, hb⟩; have n0_ := Aside0.mk (blk_below (g := gb103) (o := .cells #[.int .i64 a0_0, .int .i64 a0_1, .int .i64 a0_2, .int .i64 a0_3, .int .i64 a0_4, .int .u64 a0_5, .int .u64 a0_6, .int .u64 a0_7, .int .u64 a0_8, .slice A0_9 l0_9.length c0_9, .int .i64 a0_10, .int .u64 a0_11, .int .u64 a0_12, .int .u64 a0_13, .int .u64 a0_14] 61 (0, 0)) (by (with_reducible repeat (first | refine blk_drewN ?_ _ | refine blk_drew ?_ | refine blk_alloc ?_ _)); exact BK103.out) hb); have n1_ := Aside0.mk (below_step (by repeat (first | (with_reducible first | exact HB.out | apply below_alloc | apply pw_below_drewN | apply below_drew1 | refine below_set ?_ GE103.out) | exact HB.out)) hb); clear BK103; clear HB; have BK103 := n0_; have HB := n1_; clear n0_ n1_; (try clear hb); (try clear hb2); (try clear hk); (try clear hi))); try go_wp2_with (first | (go_at_call 37; (with_reducible refine (spec_l1In.calls a0_2 0 1000000 true _ A13.out).mono ?_); rintro e w' ⟨rfl, ⟨nd, rfl⟩⟩; (try first | exact ⟨rfl, _, World.drewN_drewN _ _ _⟩ | exact ⟨rfl, _, Eq.trans (World.drewN_drewN _ _ _) (congrArg (World.drewN _) (Nat.add_assoc _ _ _))⟩)) | (go_at_call 47; (with_reducible refine (spec_l10Pins.calls a0_10 a0_11 a0_12 a0_13 a0_14 t107 _ A15.out).mono ?_); rintro e w17 ⟨rfl, hb⟩; have n0_ := Aside0.mk (blk_below (g := gb103) (o := .cells #[.int .i64 a0_0, .int .i64 a0_1, .int .i64 a0_2, .int .i64 a0_3, .int .i64 a0_4, .int .u64 a0_5, .int .u64 a0_6, .int .u64 a0_7, .int .u64 a0_8, .slice A0_9 l0_9.length c0_9, .int .i64 a0_10, .int .u64 a0_11, .int .u64 a0_12, .int .u64 a0_13, .int .u64 a0_14] 61 (0, 0)) (by (with_reducible repeat (first | refine blk_drewN ?_ _ | refine blk_drew ?_ | refine blk_alloc ?_ _)); exact BK103.out) hb); have n1_ := Aside0.mk (below_step (by repeat (first | (with_reducible first | exact HB.out | apply below_alloc | apply pw_below_drewN | apply below_drew1 | refine below_set ?_ GE103.out) | exact HB.out)) hb); clear BK103; clear HB; have BK103 := n0_; have HB := n1_; clear n0_ n1_; (try clear hb); (try clear hb2); (try clear hk); (try clear hi))))
            go_meet
            case rel => exact ⟨_, (!t107), (by first | rfl | (simp; done) | (simp [*]; done)), H', ⟨by have := HJ1.out; first | omega | exact Nat.le_refl _⟩, ⟨by (with_reducible repeat (first | refine blk_drewN ?_ _ | refine blk_drew ?_ | refine blk_alloc ?_ _)); exact BK103.out⟩, ⟨by repeat (first | (with_reducible first | exact HB.out | apply below_alloc | apply pw_below_drewN | apply below_drew1 | refine below_set ?_ GE103.out) | exact HB.out)⟩⟩
          · replace c14 := Bool.eq_false_iff.mpr c14
            subst c14
            have H1 : (spec_ClientOk.j1 kj1 true a0_0 a0_1 a0_2 a0_3 a0_4 a0_5 a0_6 a0_7 a0_8 l0_9 a0_10 a0_11 a0_12 a0_13 a0_14) = some r := by rw [if_neg (show ¬ (false = true) by decide)] at H; exact H
            clear H
            have H := H1
            clear H1
            have H' := Aside0.mk H
            clear H
            have hcz18_0 : wc.cell? ⟨gb103, 0, none⟩ = some (.int .i64 a0_0) := (blk_cell BK103.out 0).trans rfl
            have hcz18_1 : wc.cell? ⟨gb103, 1, none⟩ = some (.int .i64 a0_1) := (blk_cell BK103.out 1).trans rfl
            have hcz18_2 : wc.cell? ⟨gb103, 2, none⟩ = some (.int .i64 a0_2) := (blk_cell BK103.out 2).trans rfl
            have hcz18_3 : wc.cell? ⟨gb103, 3, none⟩ = some (.int .i64 a0_3) := (blk_cell BK103.out 3).trans rfl
            have hcz18_4 : wc.cell? ⟨gb103, 4, none⟩ = some (.int .i64 a0_4) := (blk_cell BK103.out 4).trans rfl
            have hcz18_5 : wc.cell? ⟨gb103, 5, none⟩ = some (.int .u64 a0_5) := (blk_cell BK103.out 5).trans rfl
            have hcz18_6 : wc.cell? ⟨gb103, 6, none⟩ = some (.int .u64 a0_6) := (blk_cell BK103.out 6).trans rfl
            have hcz18_7 : wc.cell? ⟨gb103, 7, none⟩ = some (.int .u64 a0_7) := (blk_cell BK103.out 7).trans rfl
            have hcz18_8 : wc.cell? ⟨gb103, 8, none⟩ = some (.int .u64 a0_8) := (blk_cell BK103.out 8).trans rfl
            have hcz18_9 : wc.cell? ⟨gb103, 9, none⟩ = some (.slice A0_9 l0_9.length c0_9) := (blk_cell BK103.out 9).trans rfl
            have hcz18_10 : wc.cell? ⟨gb103, 10, none⟩ = some (.int .i64 a0_10) := (blk_cell BK103.out 10).trans rfl
            have hcz18_11 : wc.cell? ⟨gb103, 11, none⟩ = some (.int .u64 a0_11) := (blk_cell BK103.out 11).trans rfl
            have hcz18_12 : wc.cell? ⟨gb103, 12, none⟩ = some (.int .u64 a0_12) := (blk_cell BK103.out 12).trans rfl
            have hcz18_13 : wc.cell? ⟨gb103, 13, none⟩ = some (.int .u64 a0_13) := (blk_cell BK103.out 13).trans rfl
            have hcz18_14 : wc.cell? ⟨gb103, 14, none⟩ = some (.int .u64 a0_14) := (blk_cell BK103.out 14).trans rfl
            have hfz18_0 := blk_frozen BK103.out 0
            have hfz18_1 := blk_frozen BK103.out 1
            have hfz18_2 := blk_frozen BK103.out 2
            have hfz18_3 := blk_frozen BK103.out 3
            have hfz18_4 := blk_frozen BK103.out 4
            have hfz18_5 := blk_frozen BK103.out 5
            have hfz18_6 := blk_frozen BK103.out 6
            have hfz18_7 := blk_frozen BK103.out 7
            have hfz18_8 := blk_frozen BK103.out 8
            have hfz18_9 := blk_frozen BK103.out 9
            have hfz18_10 := blk_frozen BK103.out 10
            have hfz18_11 := blk_frozen BK103.out 11
            have hfz18_12 := blk_frozen BK103.out 12
            have hfz18_13 := blk_frozen BK103.out 13
            have hfz18_14 := blk_frozen BK103.out 14
            go_wp2_with (first | (go_at_call 37; (with_reducible refine (spec_l1In.calls a0_2 0 1000000 false _ A13.out).mono ?_); rintro e w' ⟨rfl, ⟨nd, rfl⟩⟩; (try first | exact ⟨rfl, _, World.drewN_drewN _ _ _⟩ | exact ⟨rfl, _, Eq.trans (World.drewN_drewN _ _ _) (congrArg (World.drewN _) (Nat.add_assoc _ _ _))⟩)))
            repeat (go_quiet (first | (go_at_call 37; (with_reducible refine (spec_l1In.calls a0_2 0 1000000 false _ A13.out).mono ?_); rintro e w' ⟨rfl, ⟨nd, rfl⟩⟩; (try first | exact ⟨rfl, _, World.drewN_drewN _ _ _⟩ | exact ⟨rfl, _, Eq.trans (World.drewN_drewN _ _ _) (congrArg (World.drewN _) (Nat.add_assoc _ _ _))⟩))); try go_wp2_with (first | (go_at_call 37; (with_reducible refine (spec_l1In.calls a0_2 0 1000000 false _ A13.out).mono ?_); rintro e w' ⟨rfl, ⟨nd, rfl⟩⟩; (try first | exact ⟨rfl, _, World.drewN_drewN _ _ _⟩ | exact ⟨rfl, _, Eq.trans (World.drewN_drewN _ _ _) (congrArg (World.drewN _) (Nat.add_assoc _ _ _))⟩))))
            go_meet
            case rel => exact ⟨_, (true), (by first | rfl | (simp; done) | (simp [*]; done)), H', ⟨by have := HJ1.out; first | omega | exact Nat.le_refl _⟩, ⟨by (with_reducible repeat (first | refine blk_drewN ?_ _ | refine blk_drew ?_ | refine blk_alloc ?_ _)); exact BK103.out⟩, ⟨by repeat (first | (with_reducible first | exact HB.out | apply below_alloc | apply pw_below_drewN | apply below_drew1 | refine below_set ?_ GE103.out) | exact HB.out)⟩⟩
        case rest =>
          clear HC12
          try clear c1
          try clear p2
          try clear c3
          try clear c5
          try clear p6
          try clear c7
          try clear c11
          try clear c14
          try clear hcz10_0
          try clear hcz10_1
          try clear hcz10_10
          try clear hcz10_11
          try clear hcz10_12
          try clear hcz10_13
          try clear hcz10_14
          try clear hcz10_2
          try clear hcz10_3
          try clear hcz10_4
          try clear hcz10_5
          try clear hcz10_6
          try clear hcz10_7
          try clear hcz10_8
          try clear hcz10_9
          try clear hcz16_0
          try clear hcz16_1
          try clear hcz16_10
          try clear hcz16_11
          try clear hcz16_12
          try clear hcz16_13
          try clear hcz16_14
          try clear hcz16_2
          try clear hcz16_3
          try clear hcz16_4
          try clear hcz16_5
          try clear hcz16_6
          try clear hcz16_7
          try clear hcz16_8
          try clear hcz16_9
          try clear hcz18_0
          try clear hcz18_1
          try clear hcz18_10
          try clear hcz18_11
          try clear hcz18_12
          try clear hcz18_13
          try clear hcz18_14
          try clear hcz18_2
          try clear hcz18_3
          try clear hcz18_4
          try clear hcz18_5
          try clear hcz18_6
          try clear hcz18_7
          try clear hcz18_8
          try clear hcz18_9
          try clear hcz8_0
          try clear hcz8_1
          try clear hcz8_10
          try clear hcz8_11
          try clear hcz8_12
          try clear hcz8_13
          try clear hcz8_14
          try clear hcz8_2
          try clear hcz8_3
          try clear hcz8_4
          try clear hcz8_5
          try clear hcz8_6
          try clear hcz8_7
          try clear hcz8_8
          try clear hcz8_9
          try clear hcz9_0
          try clear hcz9_1
          try clear hcz9_10
          try clear hcz9_11
          try clear hcz9_12
          try clear hcz9_13
          try clear hcz9_14
          try clear hcz9_2
          try clear hcz9_3
          try clear hcz9_4
          try clear hcz9_5
          try clear hcz9_6
          try clear hcz9_7
          try clear hcz9_8
          try clear hcz9_9
          try clear hfz10_0
          try clear hfz10_1
          try clear hfz10_10
          try clear hfz10_11
          try clear hfz10_12
          try clear hfz10_13
          try clear hfz10_14
          try clear hfz10_2
          try clear hfz10_3
          try clear hfz10_4
          try clear hfz10_5
          try clear hfz10_6
          try clear hfz10_7
          try clear hfz10_8
          try clear hfz10_9
          try clear hfz16_0
          try clear hfz16_1
          try clear hfz16_10
          try clear hfz16_11
          try clear hfz16_12
          try clear hfz16_13
          try clear hfz16_14
          try clear hfz16_2
          try clear hfz16_3
          try clear hfz16_4
          try clear hfz16_5
          try clear hfz16_6
          try clear hfz16_7
          try clear hfz16_8
          try clear hfz16_9
          try clear hfz18_0
          try clear hfz18_1
          try clear hfz18_10
          try clear hfz18_11
          try clear hfz18_12
          try clear hfz18_13
          try clear hfz18_14
          try clear hfz18_2
          try clear hfz18_3
          try clear hfz18_4
          try clear hfz18_5
          try clear hfz18_6
          try clear hfz18_7
          try clear hfz18_8
          try clear hfz18_9
          try clear hfz8_0
          try clear hfz8_1
          try clear hfz8_10
          try clear hfz8_11
          try clear hfz8_12
          try clear hfz8_13
          try clear hfz8_14
          try clear hfz8_2
          try clear hfz8_3
          try clear hfz8_4
          try clear hfz8_5
          try clear hfz8_6
          try clear hfz8_7
          try clear hfz8_8
          try clear hfz8_9
          try clear hfz9_0
          try clear hfz9_1
          try clear hfz9_10
          try clear hfz9_11
          try clear hfz9_12
          try clear hfz9_13
          try clear hfz9_14
          try clear hfz9_2
          try clear hfz9_3
          try clear hfz9_4
          try clear hfz9_5
          try clear hfz9_6
          try clear hfz9_7
          try clear hfz9_8
          try clear hfz9_9
          try clear p2
          try clear p6
          obtain ⟨kq, x33_11, rfl, HA, HJ11, BK103, HB⟩ := hcut
          cases kq with
          | zero => exact absurd HA.out (by simp [spec_ClientOk.j1])
          | succ kj11 =>
            have H := HA.out
            clear HA
            simp only [spec_ClientOk.j1] at H
            by_cases c19 : x33_11 = true
            · subst c19
              have H1 : (some false) = some r := by rw [if_pos rfl] at H; exact H
              clear H
              have H := H1
              clear H1
              obtain rfl := Option.some.inj H
              go_wp2
              repeat (go_quiet (fail); try go_wp2)
              go_ret
              exact ⟨by first | rfl | (simp [errW_none, errW_some] <;> rfl) | (simp [*, errW_none, errW_some] <;> rfl), by repeat (first | (with_reducible first | exact HB.out | apply below_alloc | apply pw_below_drewN | apply below_drew1 | refine below_set ?_ GE103.out) | exact HB.out)⟩
            · replace c19 := Bool.eq_false_iff.mpr c19
              subst c19
              have H1 : (if a0_3 = 0 then (spec_ClientOk.j2 kj11 true a0_0 a0_1 a0_2 a0_3 a0_4 a0_5 a0_6 a0_7 a0_8 l0_9 a0_10 a0_11 a0_12 a0_13 a0_14) else (spec_ClientOk.j2 kj11 (a0_3 == 1) a0_0 a0_1 a0_2 a0_3 a0_4 a0_5 a0_6 a0_7 a0_8 l0_9 a0_10 a0_11 a0_12 a0_13 a0_14)) = some r := by rw [if_neg (show ¬ (false = true) by decide)] at H; exact H
              clear H
              have H := H1
              clear H1
              have HC20 := Aside0.mk H
              clear H
              go_upto_region 5 with (fail)
              repeat (go_quiet (fail); go_upto_region 5 with (fail))
              go_cut [41] (fun v41 wc => ∃ (kq : Nat) (x41_19 : Bool), v41 = .bool x41_19 ∧ Aside0 (spec_ClientOk.j2 kq x41_19 a0_0 a0_1 a0_2 a0_3 a0_4 a0_5 a0_6 a0_7 a0_8 l0_9 a0_10 a0_11 a0_12 a0_13 a0_14 = some r) ∧ Aside0 (kq ≤ kj11) ∧ Aside0 (wc.heap[gb103]? = some (.cells #[.int .i64 a0_0, .int .i64 a0_1, .int .i64 a0_2, .int .i64 a0_3, .int .i64 a0_4, .int .u64 a0_5, .int .u64 a0_6, .int .u64 a0_7, .int .u64 a0_8, (.slice A0_9 l0_9.length c0_9), .int .i64 a0_10, .int .u64 a0_11, .int .u64 a0_12, .int .u64 a0_13, .int .u64 a0_14] 61 (0, 0))) ∧ Aside0 (Below w.heap.size w wc))
              case first =>
                have H := HC20.out
                clear HC20
                by_cases c21 : a0_3 = 0
                · rw [if_pos c21] at H
                  have c21b0 : (a0_3 == 0) = true := beq_iff_eq.mpr c21
                  have c21b1 : (a0_3 != 0) = false := bne_eq_false_iff_eq.mpr c21
                  clear c21
                  (first | rw [c21b0] | (simp only [i64_w, i32_w]; rw [c21b0]) | skip)
                  have H' := Aside0.mk H
                  clear H
                  have hcz22_0 : wc.cell? ⟨gb103, 0, none⟩ = some (.int .i64 a0_0) := (blk_cell BK103.out 0).trans rfl
                  have hcz22_1 : wc.cell? ⟨gb103, 1, none⟩ = some (.int .i64 a0_1) := (blk_cell BK103.out 1).trans rfl
                  have hcz22_2 : wc.cell? ⟨gb103, 2, none⟩ = some (.int .i64 a0_2) := (blk_cell BK103.out 2).trans rfl
                  have hcz22_3 : wc.cell? ⟨gb103, 3, none⟩ = some (.int .i64 a0_3) := (blk_cell BK103.out 3).trans rfl
                  have hcz22_4 : wc.cell? ⟨gb103, 4, none⟩ = some (.int .i64 a0_4) := (blk_cell BK103.out 4).trans rfl
                  have hcz22_5 : wc.cell? ⟨gb103, 5, none⟩ = some (.int .u64 a0_5) := (blk_cell BK103.out 5).trans rfl
                  have hcz22_6 : wc.cell? ⟨gb103, 6, none⟩ = some (.int .u64 a0_6) := (blk_cell BK103.out 6).trans rfl
                  have hcz22_7 : wc.cell? ⟨gb103, 7, none⟩ = some (.int .u64 a0_7) := (blk_cell BK103.out 7).trans rfl
                  have hcz22_8 : wc.cell? ⟨gb103, 8, none⟩ = some (.int .u64 a0_8) := (blk_cell BK103.out 8).trans rfl
                  have hcz22_9 : wc.cell? ⟨gb103, 9, none⟩ = some (.slice A0_9 l0_9.length c0_9) := (blk_cell BK103.out 9).trans rfl
                  have hcz22_10 : wc.cell? ⟨gb103, 10, none⟩ = some (.int .i64 a0_10) := (blk_cell BK103.out 10).trans rfl
                  have hcz22_11 : wc.cell? ⟨gb103, 11, none⟩ = some (.int .u64 a0_11) := (blk_cell BK103.out 11).trans rfl
                  have hcz22_12 : wc.cell? ⟨gb103, 12, none⟩ = some (.int .u64 a0_12) := (blk_cell BK103.out 12).trans rfl
                  have hcz22_13 : wc.cell? ⟨gb103, 13, none⟩ = some (.int .u64 a0_13) := (blk_cell BK103.out 13).trans rfl
                  have hcz22_14 : wc.cell? ⟨gb103, 14, none⟩ = some (.int .u64 a0_14) := (blk_cell BK103.out 14).trans rfl
                  have hfz22_0 := blk_frozen BK103.out 0
                  have hfz22_1 := blk_frozen BK103.out 1
                  have hfz22_2 := blk_frozen BK103.out 2
                  have hfz22_3 := blk_frozen BK103.out 3
                  have hfz22_4 := blk_frozen BK103.out 4
                  have hfz22_5 := blk_frozen BK103.out 5
                  have hfz22_6 := blk_frozen BK103.out 6
                  have hfz22_7 := blk_frozen BK103.out 7
                  have hfz22_8 := blk_frozen BK103.out 8
                  have hfz22_9 := blk_frozen BK103.out 9
                  have hfz22_10 := blk_frozen BK103.out 10
                  have hfz22_11 := blk_frozen BK103.out 11
                  have hfz22_12 := blk_frozen BK103.out 12
                  have hfz22_13 := blk_frozen BK103.out 13
                  have hfz22_14 := blk_frozen BK103.out 14
                  go_wp2
                  repeat (go_quiet (fail); try go_wp2)
                  go_meet
                  case rel => exact ⟨_, (true), (by first | rfl | (simp; done) | (simp [*]; done)), H', ⟨by have := HJ1.out; have := HJ11.out; first | omega | exact Nat.le_refl _⟩, ⟨by (with_reducible repeat (first | refine blk_drewN ?_ _ | refine blk_drew ?_ | refine blk_alloc ?_ _)); exact BK103.out⟩, ⟨by repeat (first | (with_reducible first | exact HB.out | apply below_alloc | apply pw_below_drewN | apply below_drew1 | refine below_set ?_ GE103.out) | exact HB.out)⟩⟩
                · rw [if_neg c21] at H
                  have c21b0 : (a0_3 == 0) = false := beq_eq_false_iff_ne.mpr c21
                  have c21b1 : (a0_3 != 0) = true := bne_iff_ne.mpr c21
                  (first | rw [c21b0] | (simp only [i64_w, i32_w]; rw [c21b0]) | skip)
                  have H' := Aside0.mk H
                  clear H
                  have hcz23_0 : wc.cell? ⟨gb103, 0, none⟩ = some (.int .i64 a0_0) := (blk_cell BK103.out 0).trans rfl
                  have hcz23_1 : wc.cell? ⟨gb103, 1, none⟩ = some (.int .i64 a0_1) := (blk_cell BK103.out 1).trans rfl
                  have hcz23_2 : wc.cell? ⟨gb103, 2, none⟩ = some (.int .i64 a0_2) := (blk_cell BK103.out 2).trans rfl
                  have hcz23_3 : wc.cell? ⟨gb103, 3, none⟩ = some (.int .i64 a0_3) := (blk_cell BK103.out 3).trans rfl
                  have hcz23_4 : wc.cell? ⟨gb103, 4, none⟩ = some (.int .i64 a0_4) := (blk_cell BK103.out 4).trans rfl
                  have hcz23_5 : wc.cell? ⟨gb103, 5, none⟩ = some (.int .u64 a0_5) := (blk_cell BK103.out 5).trans rfl
                  have hcz23_6 : wc.cell? ⟨gb103, 6, none⟩ = some (.int .u64 a0_6) := (blk_cell BK103.out 6).trans rfl
                  have hcz23_7 : wc.cell? ⟨gb103, 7, none⟩ = some (.int .u64 a0_7) := (blk_cell BK103.out 7).trans rfl
                  have hcz23_8 : wc.cell? ⟨gb103, 8, none⟩ = some (.int .u64 a0_8) := (blk_cell BK103.out 8).trans rfl
                  have hcz23_9 : wc.cell? ⟨gb103, 9, none⟩ = some (.slice A0_9 l0_9.length c0_9) := (blk_cell BK103.out 9).trans rfl
                  have hcz23_10 : wc.cell? ⟨gb103, 10, none⟩ = some (.int .i64 a0_10) := (blk_cell BK103.out 10).trans rfl
                  have hcz23_11 : wc.cell? ⟨gb103, 11, none⟩ = some (.int .u64 a0_11) := (blk_cell BK103.out 11).trans rfl
                  have hcz23_12 : wc.cell? ⟨gb103, 12, none⟩ = some (.int .u64 a0_12) := (blk_cell BK103.out 12).trans rfl
                  have hcz23_13 : wc.cell? ⟨gb103, 13, none⟩ = some (.int .u64 a0_13) := (blk_cell BK103.out 13).trans rfl
                  have hcz23_14 : wc.cell? ⟨gb103, 14, none⟩ = some (.int .u64 a0_14) := (blk_cell BK103.out 14).trans rfl
                  have hfz23_0 := blk_frozen BK103.out 0
                  have hfz23_1 := blk_frozen BK103.out 1
                  have hfz23_2 := blk_frozen BK103.out 2
                  have hfz23_3 := blk_frozen BK103.out 3
                  have hfz23_4 := blk_frozen BK103.out 4
                  have hfz23_5 := blk_frozen BK103.out 5
                  have hfz23_6 := blk_frozen BK103.out 6
                  have hfz23_7 := blk_frozen BK103.out 7
                  have hfz23_8 := blk_frozen BK103.out 8
                  have hfz23_9 := blk_frozen BK103.out 9
                  have hfz23_10 := blk_frozen BK103.out 10
                  have hfz23_11 := blk_frozen BK103.out 11
                  have hfz23_12 := blk_frozen BK103.out 12
                  have hfz23_13 := blk_frozen BK103.out 13
                  have hfz23_14 := blk_frozen BK103.out 14
                  go_wp2
                  repeat (go_quiet (fail); try go_wp2)
                  go_meet
                  case rel => exact ⟨_, ((a0_3 == 1)), (by first | rfl | (simp; done) | (simp [*]; done)), H', ⟨by have := HJ1.out; have := HJ11.out; first | omega | exact Nat.le_refl _⟩, ⟨by (with_reducible repeat (first | refine blk_drewN ?_ _ | refine blk_drew ?_ | refine blk_alloc ?_ _)); exact BK103.out⟩, ⟨by repeat (first | (with_reducible first | exact HB.out | apply below_alloc | apply pw_below_drewN | apply below_drew1 | refine below_set ?_ GE103.out) | exact HB.out)⟩⟩
              case rest =>
                clear HC20
                try clear c1
                try clear c2
                try clear p2
                try clear c3
                try clear c5
                try clear p6
                try clear c7
                try clear c11
                try clear c14
                try clear c19
                try clear c21
                try clear c21b0
                try clear c21b1
                try clear hcz10_0
                try clear hcz10_1
                try clear hcz10_10
                try clear hcz10_11
                try clear hcz10_12
                try clear hcz10_13
                try clear hcz10_14
                try clear hcz10_2
                try clear hcz10_3
                try clear hcz10_4
                try clear hcz10_5
                try clear hcz10_6
                try clear hcz10_7
                try clear hcz10_8
                try clear hcz10_9
                try clear hcz16_0
                try clear hcz16_1
                try clear hcz16_10
                try clear hcz16_11
                try clear hcz16_12
                try clear hcz16_13
                try clear hcz16_14
                try clear hcz16_2
                try clear hcz16_3
                try clear hcz16_4
                try clear hcz16_5
                try clear hcz16_6
                try clear hcz16_7
                try clear hcz16_8
                try clear hcz16_9
                try clear hcz18_0
                try clear hcz18_1
                try clear hcz18_10
                try clear hcz18_11
                try clear hcz18_12
                try clear hcz18_13
                try clear hcz18_14
                try clear hcz18_2
                try clear hcz18_3
                try clear hcz18_4
                try clear hcz18_5
                try clear hcz18_6
                try clear hcz18_7
                try clear hcz18_8
                try clear hcz18_9
                try clear hcz22_0
                try clear hcz22_1
                try clear hcz22_10
                try clear hcz22_11
                try clear hcz22_12
                try clear hcz22_13
                try clear hcz22_14
                try clear hcz22_2
                try clear hcz22_3
                try clear hcz22_4
                try clear hcz22_5
                try clear hcz22_6
                try clear hcz22_7
                try clear hcz22_8
                try clear hcz22_9
                try clear hcz23_0
                try clear hcz23_1
                try clear hcz23_10
                try clear hcz23_11
                try clear hcz23_12
                try clear hcz23_13
                try clear hcz23_14
                try clear hcz23_2
                try clear hcz23_3
                try clear hcz23_4
                try clear hcz23_5
                try clear hcz23_6
                try clear hcz23_7
                try clear hcz23_8
                try clear hcz23_9
                try clear hcz8_0
                try clear hcz8_1
                try clear hcz8_10
                try clear hcz8_11
                try clear hcz8_12
                try clear hcz8_13
                try clear hcz8_14
                try clear hcz8_2
                try clear hcz8_3
                try clear hcz8_4
                try clear hcz8_5
                try clear hcz8_6
                try clear hcz8_7
                try clear hcz8_8
                try clear hcz8_9
                try clear hcz9_0
                try clear hcz9_1
                try clear hcz9_10
                try clear hcz9_11
                try clear hcz9_12
                try clear hcz9_13
                try clear hcz9_14
                try clear hcz9_2
                try clear hcz9_3
                try clear hcz9_4
                try clear hcz9_5
                try clear hcz9_6
                try clear hcz9_7
                try clear hcz9_8
                try clear hcz9_9
                try clear hfz10_0
                try clear hfz10_1
                try clear hfz10_10
                try clear hfz10_11
                try clear hfz10_12
                try clear hfz10_13
                try clear hfz10_14
                try clear hfz10_2
                try clear hfz10_3
                try clear hfz10_4
                try clear hfz10_5
                try clear hfz10_6
                try clear hfz10_7
                try clear hfz10_8
                try clear hfz10_9
                try clear hfz16_0
                try clear hfz16_1
                try clear hfz16_10
                try clear hfz16_11
                try clear hfz16_12
                try clear hfz16_13
                try clear hfz16_14
                try clear hfz16_2
                try clear hfz16_3
                try clear hfz16_4
                try clear hfz16_5
                try clear hfz16_6
                try clear hfz16_7
                try clear hfz16_8
                try clear hfz16_9
                try clear hfz18_0
                try clear hfz18_1
                try clear hfz18_10
                try clear hfz18_11
                try clear hfz18_12
                try clear hfz18_13
                try clear hfz18_14
                try clear hfz18_2
                try clear hfz18_3
                try clear hfz18_4
                try clear hfz18_5
                try clear hfz18_6
                try clear hfz18_7
                try clear hfz18_8
                try clear hfz18_9
                try clear hfz22_0
                try clear hfz22_1
                try clear hfz22_10
                try clear hfz22_11
                try clear hfz22_12
                try clear hfz22_13
                try clear hfz22_14
                try clear hfz22_2
                try clear hfz22_3
                try clear hfz22_4
                try clear hfz22_5
                try clear hfz22_6
                try clear hfz22_7
                try clear hfz22_8
                try clear hfz22_9
                try clear hfz23_0
                try clear hfz23_1
                try clear hfz23_10
                try clear hfz23_11
                try clear hfz23_12
                try clear hfz23_13
                try clear hfz23_14
                try clear hfz23_2
                try clear hfz23_3
                try clear hfz23_4
                try clear hfz23_5
                try clear hfz23_6
                try clear hfz23_7
                try clear hfz23_8
                try clear hfz23_9
                try clear hfz8_0
                try clear hfz8_1
                try clear hfz8_10
                try clear hfz8_11
                try clear hfz8_12
                try clear hfz8_13
                try clear hfz8_14
                try clear hfz8_2
                try clear hfz8_3
                try clear hfz8_4
                try clear hfz8_5
                try clear hfz8_6
                try clear hfz8_7
                try clear hfz8_8
                try clear hfz8_9
                try clear hfz9_0
                try clear hfz9_1
                try clear hfz9_10
                try clear hfz9_11
                try clear hfz9_12
                try clear hfz9_13
                try clear hfz9_14
                try clear hfz9_2
                try clear hfz9_3
                try clear hfz9_4
                try clear hfz9_5
                try clear hfz9_6
                try clear hfz9_7
                try clear hfz9_8
                try clear hfz9_9
                try clear p2
                try clear p6
                obtain ⟨kq, x41_19, rfl, HA, HJ19, BK103, HB⟩ := hcut
                cases kq with
                | zero => exact absurd HA.out (by simp [spec_ClientOk.j2])
                | succ kj19 =>
                  have H := HA.out
                  clear HA
                  simp only [spec_ClientOk.j2] at H
                  by_cases c24 : x41_19 = true
                  · subst c24
                    have H1 : (if (a0_4 == 0 && ((a0_5 == 0 && (a0_6 == 0 && (a0_7 == 0 && (a0_8 == 0)))))) = true then (if (l0_9.length : Int) = 0 then (some (decide (a0_2 ≥ a0_3))) else (some false)) else (some false)) = some r := by rw [if_pos rfl] at H; exact H
                    clear H
                    have H := H1
                    clear H1
                    by_cases c25 : (a0_4 == 0 && ((a0_5 == 0 && (a0_6 == 0 && (a0_7 == 0 && (a0_8 == 0)))))) = true
                    · rw [if_pos c25] at H
                      have c25b0 : (a0_4 == 0 && ((a0_5 == 0 && (a0_6 == 0 && (a0_7 == 0 && (a0_8 == 0)))))) = true := c25
                      (try (have c25b1 : decide (a0_4 = 0 && ((a0_5 == 0 && (a0_6 == 0 && (a0_7 == 0 && (a0_8 == 0)))))) = true := by simpa using c25))
                      (try (have c25b2 : (a0_4 == 0 && ((a0_5 == 0 && (a0_6 == 0 && (a0_7 == 0 && (a0_8 == 0)))))) = true := by simpa using c25))
                      clear c25
                      by_cases c26 : (l0_9.length : Int) = 0
                      · rw [if_pos c26] at H
                        have c26b0 : ((l0_9.length : Int) == 0) = true := beq_iff_eq.mpr c26
                        have c26b1 : ((l0_9.length : Int) != 0) = false := bne_eq_false_iff_eq.mpr c26
                        clear c26
                        obtain rfl := Option.some.inj H
                        have hcz27_0 : wc.cell? ⟨gb103, 0, none⟩ = some (.int .i64 a0_0) := (blk_cell BK103.out 0).trans rfl
                        have hcz27_1 : wc.cell? ⟨gb103, 1, none⟩ = some (.int .i64 a0_1) := (blk_cell BK103.out 1).trans rfl
                        have hcz27_2 : wc.cell? ⟨gb103, 2, none⟩ = some (.int .i64 a0_2) := (blk_cell BK103.out 2).trans rfl
                        have hcz27_3 : wc.cell? ⟨gb103, 3, none⟩ = some (.int .i64 a0_3) := (blk_cell BK103.out 3).trans rfl
                        have hcz27_4 : wc.cell? ⟨gb103, 4, none⟩ = some (.int .i64 a0_4) := (blk_cell BK103.out 4).trans rfl
                        have hcz27_5 : wc.cell? ⟨gb103, 5, none⟩ = some (.int .u64 a0_5) := (blk_cell BK103.out 5).trans rfl
                        have hcz27_6 : wc.cell? ⟨gb103, 6, none⟩ = some (.int .u64 a0_6) := (blk_cell BK103.out 6).trans rfl
                        have hcz27_7 : wc.cell? ⟨gb103, 7, none⟩ = some (.int .u64 a0_7) := (blk_cell BK103.out 7).trans rfl
                        have hcz27_8 : wc.cell? ⟨gb103, 8, none⟩ = some (.int .u64 a0_8) := (blk_cell BK103.out 8).trans rfl
                        have hcz27_9 : wc.cell? ⟨gb103, 9, none⟩ = some (.slice A0_9 l0_9.length c0_9) := (blk_cell BK103.out 9).trans rfl
                        have hcz27_10 : wc.cell? ⟨gb103, 10, none⟩ = some (.int .i64 a0_10) := (blk_cell BK103.out 10).trans rfl
                        have hcz27_11 : wc.cell? ⟨gb103, 11, none⟩ = some (.int .u64 a0_11) := (blk_cell BK103.out 11).trans rfl
                        have hcz27_12 : wc.cell? ⟨gb103, 12, none⟩ = some (.int .u64 a0_12) := (blk_cell BK103.out 12).trans rfl
                        have hcz27_13 : wc.cell? ⟨gb103, 13, none⟩ = some (.int .u64 a0_13) := (blk_cell BK103.out 13).trans rfl
                        have hcz27_14 : wc.cell? ⟨gb103, 14, none⟩ = some (.int .u64 a0_14) := (blk_cell BK103.out 14).trans rfl
                        have hfz27_0 := blk_frozen BK103.out 0
                        have hfz27_1 := blk_frozen BK103.out 1
                        have hfz27_2 := blk_frozen BK103.out 2
                        have hfz27_3 := blk_frozen BK103.out 3
                        have hfz27_4 := blk_frozen BK103.out 4
                        have hfz27_5 := blk_frozen BK103.out 5
                        have hfz27_6 := blk_frozen BK103.out 6
                        have hfz27_7 := blk_frozen BK103.out 7
                        have hfz27_8 := blk_frozen BK103.out 8
                        have hfz27_9 := blk_frozen BK103.out 9
                        have hfz27_10 := blk_frozen BK103.out 10
                        have hfz27_11 := blk_frozen BK103.out 11
                        have hfz27_12 := blk_frozen BK103.out 12
                        have hfz27_13 := blk_frozen BK103.out 13
                        have hfz27_14 := blk_frozen BK103.out 14
                        go_wp2
                        repeat (go_quiet (fail); try go_wp2)
                        go_ret
                        exact ⟨by first | rfl | (simp [errW_none, errW_some] <;> rfl) | (simp [*, errW_none, errW_some] <;> rfl), by repeat (first | (with_reducible first | exact HB.out | apply below_alloc | apply pw_below_drewN | apply below_drew1 | refine below_set ?_ GE103.out) | exact HB.out)⟩
                      · rw [if_neg c26] at H
                        have c26b0 : ((l0_9.length : Int) == 0) = false := beq_eq_false_iff_ne.mpr c26
                        have c26b1 : ((l0_9.length : Int) != 0) = true := bne_iff_ne.mpr c26
                        have c26b2 : ¬ (l0_9 = []) := fun h_ => c26 (by rw [h_]; rfl)
                        obtain rfl := Option.some.inj H
                        have hcz28_0 : wc.cell? ⟨gb103, 0, none⟩ = some (.int .i64 a0_0) := (blk_cell BK103.out 0).trans rfl
                        have hcz28_1 : wc.cell? ⟨gb103, 1, none⟩ = some (.int .i64 a0_1) := (blk_cell BK103.out 1).trans rfl
                        have hcz28_2 : wc.cell? ⟨gb103, 2, none⟩ = some (.int .i64 a0_2) := (blk_cell BK103.out 2).trans rfl
                        have hcz28_3 : wc.cell? ⟨gb103, 3, none⟩ = some (.int .i64 a0_3) := (blk_cell BK103.out 3).trans rfl
                        have hcz28_4 : wc.cell? ⟨gb103, 4, none⟩ = some (.int .i64 a0_4) := (blk_cell BK103.out 4).trans rfl
                        have hcz28_5 : wc.cell? ⟨gb103, 5, none⟩ = some (.int .u64 a0_5) := (blk_cell BK103.out 5).trans rfl
                        have hcz28_6 : wc.cell? ⟨gb103, 6, none⟩ = some (.int .u64 a0_6) := (blk_cell BK103.out 6).trans rfl
                        have hcz28_7 : wc.cell? ⟨gb103, 7, none⟩ = some (.int .u64 a0_7) := (blk_cell BK103.out 7).trans rfl
                        have hcz28_8 : wc.cell? ⟨gb103, 8, none⟩ = some (.int .u64 a0_8) := (blk_cell BK103.out 8).trans rfl
                        have hcz28_9 : wc.cell? ⟨gb103, 9, none⟩ = some (.slice A0_9 l0_9.length c0_9) := (blk_cell BK103.out 9).trans rfl
                        have hcz28_10 : wc.cell? ⟨gb103, 10, none⟩ = some (.int .i64 a0_10) := (blk_cell BK103.out 10).trans rfl
                        have hcz28_11 : wc.cell? ⟨gb103, 11, none⟩ = some (.int .u64 a0_11) := (blk_cell BK103.out 11).trans rfl
                        have hcz28_12 : wc.cell? ⟨gb103, 12, none⟩ = some (.int .u64 a0_12) := (blk_cell BK103.out 12).trans rfl
                        have hcz28_13 : wc.cell? ⟨gb103, 13, none⟩ = some (.int .u64 a0_13) := (blk_cell BK103.out 13).trans rfl
                        have hcz28_14 : wc.cell? ⟨gb103, 14, none⟩ = some (.int .u64 a0_14) := (blk_cell BK103.out 14).trans rfl
                        have hfz28_0 := blk_frozen BK103.out 0
                        have hfz28_1 := blk_frozen BK103.out 1
                        have hfz28_2 := blk_frozen BK103.out 2
                        have hfz28_3 := blk_frozen BK103.out 3
                        have hfz28_4 := blk_frozen BK103.out 4
                        have hfz28_5 := blk_frozen BK103.out 5
                        have hfz28_6 := blk_frozen BK103.out 6
                        have hfz28_7 := blk_frozen BK103.out 7
                        have hfz28_8 := blk_frozen BK103.out 8
                        have hfz28_9 := blk_frozen BK103.out 9
                        have hfz28_10 := blk_frozen BK103.out 10
                        have hfz28_11 := blk_frozen BK103.out 11
                        have hfz28_12 := blk_frozen BK103.out 12
                        have hfz28_13 := blk_frozen BK103.out 13
                        have hfz28_14 := blk_frozen BK103.out 14
                        go_wp2
                        repeat (go_quiet (fail); try go_wp2)
                        go_ret
                        exact ⟨by first | rfl | (simp [errW_none, errW_some] <;> rfl) | (simp [*, errW_none, errW_some] <;> rfl), by repeat (first | (with_reducible first | exact HB.out | apply below_alloc | apply pw_below_drewN | apply below_drew1 | refine below_set ?_ GE103.out) | exact HB.out)⟩
                    · rw [if_neg c25] at H
                      have c25b0 : (a0_4 == 0 && ((a0_5 == 0 && (a0_6 == 0 && (a0_7 == 0 && (a0_8 == 0)))))) = false := by simpa using c25
                      (try (have c25b1 : decide (a0_4 = 0 && ((a0_5 == 0 && (a0_6 == 0 && (a0_7 == 0 && (a0_8 == 0)))))) = false := by simpa using c25))
                      (try (have c25b2 : (a0_4 == 0 && ((a0_5 == 0 && (a0_6 == 0 && (a0_7 == 0 && (a0_8 == 0)))))) = false := by simpa using c25))
                      (try (have c25b3 : ¬ (a0_4 = 0 && ((a0_5 == 0 && (a0_6 == 0 && (a0_7 == 0 && (a0_8 == 0)))))) := by simpa using c25))
                      clear c25
                      obtain rfl := Option.some.inj H
                      have hcz29_0 : wc.cell? ⟨gb103, 0, none⟩ = some (.int .i64 a0_0) := (blk_cell BK103.out 0).trans rfl
                      have hcz29_1 : wc.cell? ⟨gb103, 1, none⟩ = some (.int .i64 a0_1) := (blk_cell BK103.out 1).trans rfl
                      have hcz29_2 : wc.cell? ⟨gb103, 2, none⟩ = some (.int .i64 a0_2) := (blk_cell BK103.out 2).trans rfl
                      have hcz29_3 : wc.cell? ⟨gb103, 3, none⟩ = some (.int .i64 a0_3) := (blk_cell BK103.out 3).trans rfl
                      have hcz29_4 : wc.cell? ⟨gb103, 4, none⟩ = some (.int .i64 a0_4) := (blk_cell BK103.out 4).trans rfl
                      have hcz29_5 : wc.cell? ⟨gb103, 5, none⟩ = some (.int .u64 a0_5) := (blk_cell BK103.out 5).trans rfl
                      have hcz29_6 : wc.cell? ⟨gb103, 6, none⟩ = some (.int .u64 a0_6) := (blk_cell BK103.out 6).trans rfl
                      have hcz29_7 : wc.cell? ⟨gb103, 7, none⟩ = some (.int .u64 a0_7) := (blk_cell BK103.out 7).trans rfl
                      have hcz29_8 : wc.cell? ⟨gb103, 8, none⟩ = some (.int .u64 a0_8) := (blk_cell BK103.out 8).trans rfl
                      have hcz29_9 : wc.cell? ⟨gb103, 9, none⟩ = some (.slice A0_9 l0_9.length c0_9) := (blk_cell BK103.out 9).trans rfl
                      have hcz29_10 : wc.cell? ⟨gb103, 10, none⟩ = some (.int .i64 a0_10) := (blk_cell BK103.out 10).trans rfl
                      have hcz29_11 : wc.cell? ⟨gb103, 11, none⟩ = some (.int .u64 a0_11) := (blk_cell BK103.out 11).trans rfl
                      have hcz29_12 : wc.cell? ⟨gb103, 12, none⟩ = some (.int .u64 a0_12) := (blk_cell BK103.out 12).trans rfl
                      have hcz29_13 : wc.cell? ⟨gb103, 13, none⟩ = some (.int .u64 a0_13) := (blk_cell BK103.out 13).trans rfl
                      have hcz29_14 : wc.cell? ⟨gb103, 14, none⟩ = some (.int .u64 a0_14) := (blk_cell BK103.out 14).trans rfl
                      have hfz29_0 := blk_frozen BK103.out 0
                      have hfz29_1 := blk_frozen BK103.out 1
                      have hfz29_2 := blk_frozen BK103.out 2
                      have hfz29_3 := blk_frozen BK103.out 3
                      have hfz29_4 := blk_frozen BK103.out 4
                      have hfz29_5 := blk_frozen BK103.out 5
                      have hfz29_6 := blk_frozen BK103.out 6
                      have hfz29_7 := blk_frozen BK103.out 7
                      have hfz29_8 := blk_frozen BK103.out 8
                      have hfz29_9 := blk_frozen BK103.out 9
                      have hfz29_10 := blk_frozen BK103.out 10
                      have hfz29_11 := blk_frozen BK103.out 11
                      have hfz29_12 := blk_frozen BK103.out 12
                      have hfz29_13 := blk_frozen BK103.out 13
                      have hfz29_14 := blk_frozen BK103.out 14
                      go_wp2
                      repeat (go_quiet (fail); try go_wp2)
                      go_ret
                      exact ⟨by first | rfl | (simp [errW_none, errW_some] <;> rfl) | (simp [*, errW_none, errW_some] <;> rfl), by repeat (first | (with_reducible first | exact HB.out | apply below_alloc | apply pw_below_drewN | apply below_drew1 | refine below_set ?_ GE103.out) | exact HB.out)⟩
                  · replace c24 := Bool.eq_false_iff.mpr c24
                    subst c24
                    have H1 : (if a0_3 = 2 then (if a0_2 < 1 then (spec_ClientOk.j3 kj19 true a0_0 a0_1 a0_2 a0_3 a0_4 a0_5 a0_6 a0_7 a0_8 l0_9 a0_10 a0_11 a0_12 a0_13 a0_14) else ((spec_l1In.f a0_4 (wrap64 (a0_10 + 1)) 256).bind fun t108 => (if t108 = true then (spec_ClientOk.j3 kj19 (decide ((l0_9.length : Int) ≥ a0_0)) a0_0 a0_1 a0_2 a0_3 a0_4 a0_5 a0_6 a0_7 a0_8 l0_9 a0_10 a0_11 a0_12 a0_13 a0_14) else (spec_ClientOk.j3 kj19 true a0_0 a0_1 a0_2 a0_3 a0_4 a0_5 a0_6 a0_7 a0_8 l0_9 a0_10 a0_11 a0_12 a0_13 a0_14)))) else (spec_ClientOk.j3 kj19 true a0_0 a0_1 a0_2 a0_3 a0_4 a0_5 a0_6 a0_7 a0_8 l0_9 a0_10 a0_11 a0_12 a0_13 a0_14)) = some r := by rw [if_neg (show ¬ (false = true) by decide)] at H; exact H
                    clear H
                    have H := H1
                    clear H1
                    have HC30 := Aside0.mk H
                    clear H
                    go_upto_region 7 with (fail)
                    repeat (go_quiet (fail); go_upto_region 7 with (fail))
                    go_cut [85] (fun v85 wc => ∃ (kq : Nat) (x85_29 : Bool), v85 = .bool x85_29 ∧ Aside0 (spec_ClientOk.j3 kq x85_29 a0_0 a0_1 a0_2 a0_3 a0_4 a0_5 a0_6 a0_7 a0_8 l0_9 a0_10 a0_11 a0_12 a0_13 a0_14 = some r) ∧ Aside0 (kq ≤ kj19) ∧ Aside0 (wc.heap[gb103]? = some (.cells #[.int .i64 a0_0, .int .i64 a0_1, .int .i64 a0_2, .int .i64 a0_3, .int .i64 a0_4, .int .u64 a0_5, .int .u64 a0_6, .int .u64 a0_7, .int .u64 a0_8, (.slice A0_9 l0_9.length c0_9), .int .i64 a0_10, .int .u64 a0_11, .int .u64 a0_12, .int .u64 a0_13, .int .u64 a0_14] 61 (0, 0))) ∧ Aside0 (Below w.heap.size w wc))
                    case first =>
                      have H := HC30.out
                      clear HC30
                      by_cases c31 : a0_3 = 2
                      · rw [if_pos c31] at H
                        have c31b0 : (a0_3 == 2) = true := beq_iff_eq.mpr c31
                        have c31b1 : (a0_3 != 2) = false := bne_eq_false_iff_eq.mpr c31
                        clear c31
                        (first | rw [c31b0] | (simp only [i64_w, i32_w]; rw [c31b0]) | skip)
                        by_cases c32 : a0_2 < 1
                        · rw [if_pos c32] at H
                          have c32b0 : decide (a0_2 < 1) = true := decide_eq_true c32
                          clear c32
                          have H' := Aside0.mk H
                          clear H
                          have hcz33_0 : wc.cell? ⟨gb103, 0, none⟩ = some (.int .i64 a0_0) := (blk_cell BK103.out 0).trans rfl
                          have hcz33_1 : wc.cell? ⟨gb103, 1, none⟩ = some (.int .i64 a0_1) := (blk_cell BK103.out 1).trans rfl
                          have hcz33_2 : wc.cell? ⟨gb103, 2, none⟩ = some (.int .i64 a0_2) := (blk_cell BK103.out 2).trans rfl
                          have hcz33_3 : wc.cell? ⟨gb103, 3, none⟩ = some (.int .i64 a0_3) := (blk_cell BK103.out 3).trans rfl
                          have hcz33_4 : wc.cell? ⟨gb103, 4, none⟩ = some (.int .i64 a0_4) := (blk_cell BK103.out 4).trans rfl
                          have hcz33_5 : wc.cell? ⟨gb103, 5, none⟩ = some (.int .u64 a0_5) := (blk_cell BK103.out 5).trans rfl
                          have hcz33_6 : wc.cell? ⟨gb103, 6, none⟩ = some (.int .u64 a0_6) := (blk_cell BK103.out 6).trans rfl
                          have hcz33_7 : wc.cell? ⟨gb103, 7, none⟩ = some (.int .u64 a0_7) := (blk_cell BK103.out 7).trans rfl
                          have hcz33_8 : wc.cell? ⟨gb103, 8, none⟩ = some (.int .u64 a0_8) := (blk_cell BK103.out 8).trans rfl
                          have hcz33_9 : wc.cell? ⟨gb103, 9, none⟩ = some (.slice A0_9 l0_9.length c0_9) := (blk_cell BK103.out 9).trans rfl
                          have hcz33_10 : wc.cell? ⟨gb103, 10, none⟩ = some (.int .i64 a0_10) := (blk_cell BK103.out 10).trans rfl
                          have hcz33_11 : wc.cell? ⟨gb103, 11, none⟩ = some (.int .u64 a0_11) := (blk_cell BK103.out 11).trans rfl
                          have hcz33_12 : wc.cell? ⟨gb103, 12, none⟩ = some (.int .u64 a0_12) := (blk_cell BK103.out 12).trans rfl
                          have hcz33_13 : wc.cell? ⟨gb103, 13, none⟩ = some (.int .u64 a0_13) := (blk_cell BK103.out 13).trans rfl
                          have hcz33_14 : wc.cell? ⟨gb103, 14, none⟩ = some (.int .u64 a0_14) := (blk_cell BK103.out 14).trans rfl
                          have hfz33_0 := blk_frozen BK103.out 0
                          have hfz33_1 := blk_frozen BK103.out 1
                          have hfz33_2 := blk_frozen BK103.out 2
                          have hfz33_3 := blk_frozen BK103.out 3
                          have hfz33_4 := blk_frozen BK103.out 4
                          have hfz33_5 := blk_frozen BK103.out 5
                          have hfz33_6 := blk_frozen BK103.out 6
                          have hfz33_7 := blk_frozen BK103.out 7
                          have hfz33_8 := blk_frozen BK103.out 8
                          have hfz33_9 := blk_frozen BK103.out 9
                          have hfz33_10 := blk_frozen BK103.out 10
                          have hfz33_11 := blk_frozen BK103.out 11
                          have hfz33_12 := blk_frozen BK103.out 12
                          have hfz33_13 := blk_frozen BK103.out 13
                          have hfz33_14 := blk_frozen BK103.out 14
                          go_wp2
                          repeat (go_quiet (fail); try go_wp2)
                          go_meet
                          case rel => exact ⟨_, (true), (by first | rfl | (simp; done) | (simp [*]; done)), H', ⟨by have := HJ1.out; have := HJ11.out; have := HJ19.out; first | omega | exact Nat.le_refl _⟩, ⟨by (with_reducible repeat (first | refine blk_drewN ?_ _ | refine blk_drew ?_ | refine blk_alloc ?_ _)); exact BK103.out⟩, ⟨by repeat (first | (with_reducible first | exact HB.out | apply below_alloc | apply pw_below_drewN | apply below_drew1 | refine below_set ?_ GE103.out) | exact HB.out)⟩⟩
                        · rw [if_neg c32] at H
                          have c32b0 : decide (a0_2 < 1) = false := decide_eq_false c32
                          clear c32
                          replace H := Option.bind_eq_some_iff.mp H
                          obtain ⟨t108, A340, H⟩ := H
                          replace H : (if t108 = true then (spec_ClientOk.j3 kj19 (decide ((l0_9.length : Int) ≥ a0_0)) a0_0 a0_1 a0_2 a0_3 a0_4 a0_5 a0_6 a0_7 a0_8 l0_9 a0_10 a0_11 a0_12 a0_13 a0_14) else (spec_ClientOk.j3 kj19 true a0_0 a0_1 a0_2 a0_3 a0_4 a0_5 a0_6 a0_7 a0_8 l0_9 a0_10 a0_11 a0_12 a0_13 a0_14)) = some r := H
                          have A34 := Aside0.mk A340
                          clear A340
                          by_cases c35 : t108 = true
                          · subst c35
                            have H1 : (spec_ClientOk.j3 kj19 (decide ((l0_9.length : Int) ≥ a0_0)) a0_0 a0_1 a0_2 a0_3 a0_4 a0_5 a0_6 a0_7 a0_8 l0_9 a0_10 a0_11 a0_12 a0_13 a0_14) = some r := by rw [if_pos rfl] at H; exact H
                            clear H
                            have H := H1
                            clear H1
                            have H' := Aside0.mk H
                            clear H
                            have hcz36_0 : wc.cell? ⟨gb103, 0, none⟩ = some (.int .i64 a0_0) := (blk_cell BK103.out 0).trans rfl
                            have hcz36_1 : wc.cell? ⟨gb103, 1, none⟩ = some (.int .i64 a0_1) := (blk_cell BK103.out 1).trans rfl
                            have hcz36_2 : wc.cell? ⟨gb103, 2, none⟩ = some (.int .i64 a0_2) := (blk_cell BK103.out 2).trans rfl
                            have hcz36_3 : wc.cell? ⟨gb103, 3, none⟩ = some (.int .i64 a0_3) := (blk_cell BK103.out 3).trans rfl
                            have hcz36_4 : wc.cell? ⟨gb103, 4, none⟩ = some (.int .i64 a0_4) := (blk_cell BK103.out 4).trans rfl
                            have hcz36_5 : wc.cell? ⟨gb103, 5, none⟩ = some (.int .u64 a0_5) := (blk_cell BK103.out 5).trans rfl
                            have hcz36_6 : wc.cell? ⟨gb103, 6, none⟩ = some (.int .u64 a0_6) := (blk_cell BK103.out 6).trans rfl
                            have hcz36_7 : wc.cell? ⟨gb103, 7, none⟩ = some (.int .u64 a0_7) := (blk_cell BK103.out 7).trans rfl
                            have hcz36_8 : wc.cell? ⟨gb103, 8, none⟩ = some (.int .u64 a0_8) := (blk_cell BK103.out 8).trans rfl
                            have hcz36_9 : wc.cell? ⟨gb103, 9, none⟩ = some (.slice A0_9 l0_9.length c0_9) := (blk_cell BK103.out 9).trans rfl
                            have hcz36_10 : wc.cell? ⟨gb103, 10, none⟩ = some (.int .i64 a0_10) := (blk_cell BK103.out 10).trans rfl
                            have hcz36_11 : wc.cell? ⟨gb103, 11, none⟩ = some (.int .u64 a0_11) := (blk_cell BK103.out 11).trans rfl
                            have hcz36_12 : wc.cell? ⟨gb103, 12, none⟩ = some (.int .u64 a0_12) := (blk_cell BK103.out 12).trans rfl
                            have hcz36_13 : wc.cell? ⟨gb103, 13, none⟩ = some (.int .u64 a0_13) := (blk_cell BK103.out 13).trans rfl
                            have hcz36_14 : wc.cell? ⟨gb103, 14, none⟩ = some (.int .u64 a0_14) := (blk_cell BK103.out 14).trans rfl
                            have hfz36_0 := blk_frozen BK103.out 0
                            have hfz36_1 := blk_frozen BK103.out 1
                            have hfz36_2 := blk_frozen BK103.out 2
                            have hfz36_3 := blk_frozen BK103.out 3
                            have hfz36_4 := blk_frozen BK103.out 4
                            have hfz36_5 := blk_frozen BK103.out 5
                            have hfz36_6 := blk_frozen BK103.out 6
                            have hfz36_7 := blk_frozen BK103.out 7
                            have hfz36_8 := blk_frozen BK103.out 8
                            have hfz36_9 := blk_frozen BK103.out 9
                            have hfz36_10 := blk_frozen BK103.out 10
                            have hfz36_11 := blk_frozen BK103.out 11
                            have hfz36_12 := blk_frozen BK103.out 12
                            have hfz36_13 := blk_frozen BK103.out 13
                            have hfz36_14 := blk_frozen BK103.out 14
                            go_wp2_with (first | (go_at_call 37; (with_reducible refine (spec_l1In.calls a0_4 (wrap64 (a0_10 + 1)) 256 true _ A34.out).mono ?_); rintro e w' ⟨rfl, ⟨nd, rfl⟩⟩; (try first | exact ⟨rfl, _, World.drewN_drewN _ _ _⟩ | exact ⟨rfl, _, Eq.trans (World.drewN_drewN _ _ _) (congrArg (World.drewN _) (Nat.add_assoc _ _ _))⟩)))
                            repeat (go_quiet (first | (go_at_call 37; (with_reducible refine (spec_l1In.calls a0_4 (wrap64 (a0_10 + 1)) 256 true _ A34.out).mono ?_); rintro e w' ⟨rfl, ⟨nd, rfl⟩⟩; (try first | exact ⟨rfl, _, World.drewN_drewN _ _ _⟩ | exact ⟨rfl, _, Eq.trans (World.drewN_drewN _ _ _) (congrArg (World.drewN _) (Nat.add_assoc _ _ _))⟩))); try go_wp2_with (first | (go_at_call 37; (with_reducible refine (spec_l1In.calls a0_4 (wrap64 (a0_10 + 1)) 256 true _ A34.out).mono ?_); rintro e w' ⟨rfl, ⟨nd, rfl⟩⟩; (try first | exact ⟨rfl, _, World.drewN_drewN _ _ _⟩ | exact ⟨rfl, _, Eq.trans (World.drewN_drewN _ _ _) (congrArg (World.drewN _) (Nat.add_assoc _ _ _))⟩))))
                            go_meet
                            case rel => exact ⟨_, (decide ((l0_9.length : Int) ≥ a0_0)), (by first | rfl | (simp; done) | (simp [*]; done)), H', ⟨by have := HJ1.out; have := HJ11.out; have := HJ19.out; first | omega | exact Nat.le_refl _⟩, ⟨by (with_reducible repeat (first | refine blk_drewN ?_ _ | refine blk_drew ?_ | refine blk_alloc ?_ _)); exact BK103.out⟩, ⟨by repeat (first | (with_reducible first | exact HB.out | apply below_alloc | apply pw_below_drewN | apply below_drew1 | refine below_set ?_ GE103.out) | exact HB.out)⟩⟩
                          · replace c35 := Bool.eq_false_iff.mpr c35
                            subst c35
                            have H1 : (spec_ClientOk.j3 kj19 true a0_0 a0_1 a0_2 a0_3 a0_4 a0_5 a0_6 a0_7 a0_8 l0_9 a0_10 a0_11 a0_12 a0_13 a0_14) = some r := by rw [if_neg (show ¬ (false = true) by decide)] at H; exact H
                            clear H
                            have H := H1
                            clear H1
                            have H' := Aside0.mk H
                            clear H
                            have hcz37_0 : wc.cell? ⟨gb103, 0, none⟩ = some (.int .i64 a0_0) := (blk_cell BK103.out 0).trans rfl
                            have hcz37_1 : wc.cell? ⟨gb103, 1, none⟩ = some (.int .i64 a0_1) := (blk_cell BK103.out 1).trans rfl
                            have hcz37_2 : wc.cell? ⟨gb103, 2, none⟩ = some (.int .i64 a0_2) := (blk_cell BK103.out 2).trans rfl
                            have hcz37_3 : wc.cell? ⟨gb103, 3, none⟩ = some (.int .i64 a0_3) := (blk_cell BK103.out 3).trans rfl
                            have hcz37_4 : wc.cell? ⟨gb103, 4, none⟩ = some (.int .i64 a0_4) := (blk_cell BK103.out 4).trans rfl
                            have hcz37_5 : wc.cell? ⟨gb103, 5, none⟩ = some (.int .u64 a0_5) := (blk_cell BK103.out 5).trans rfl
                            have hcz37_6 : wc.cell? ⟨gb103, 6, none⟩ = some (.int .u64 a0_6) := (blk_cell BK103.out 6).trans rfl
                            have hcz37_7 : wc.cell? ⟨gb103, 7, none⟩ = some (.int .u64 a0_7) := (blk_cell BK103.out 7).trans rfl
                            have hcz37_8 : wc.cell? ⟨gb103, 8, none⟩ = some (.int .u64 a0_8) := (blk_cell BK103.out 8).trans rfl
                            have hcz37_9 : wc.cell? ⟨gb103, 9, none⟩ = some (.slice A0_9 l0_9.length c0_9) := (blk_cell BK103.out 9).trans rfl
                            have hcz37_10 : wc.cell? ⟨gb103, 10, none⟩ = some (.int .i64 a0_10) := (blk_cell BK103.out 10).trans rfl
                            have hcz37_11 : wc.cell? ⟨gb103, 11, none⟩ = some (.int .u64 a0_11) := (blk_cell BK103.out 11).trans rfl
                            have hcz37_12 : wc.cell? ⟨gb103, 12, none⟩ = some (.int .u64 a0_12) := (blk_cell BK103.out 12).trans rfl
                            have hcz37_13 : wc.cell? ⟨gb103, 13, none⟩ = some (.int .u64 a0_13) := (blk_cell BK103.out 13).trans rfl
                            have hcz37_14 : wc.cell? ⟨gb103, 14, none⟩ = some (.int .u64 a0_14) := (blk_cell BK103.out 14).trans rfl
                            have hfz37_0 := blk_frozen BK103.out 0
                            have hfz37_1 := blk_frozen BK103.out 1
                            have hfz37_2 := blk_frozen BK103.out 2
                            have hfz37_3 := blk_frozen BK103.out 3
                            have hfz37_4 := blk_frozen BK103.out 4
                            have hfz37_5 := blk_frozen BK103.out 5
                            have hfz37_6 := blk_frozen BK103.out 6
                            have hfz37_7 := blk_frozen BK103.out 7
                            have hfz37_8 := blk_frozen BK103.out 8
                            have hfz37_9 := blk_frozen BK103.out 9
                            have hfz37_10 := blk_frozen BK103.out 10
                            have hfz37_11 := blk_frozen BK103.out 11
                            have hfz37_12 := blk_frozen BK103.out 12
                            have hfz37_13 := blk_frozen BK103.out 13
                            have hfz37_14 := blk_frozen BK103.out 14
                            go_wp2_with (first | (go_at_call 37; (with_reducible refine (spec_l1In.calls a0_4 (wrap64 (a0_10 + 1)) 256 false _ A34.out).mono ?_); rintro e w' ⟨rfl, ⟨nd, rfl⟩⟩; (try first | exact ⟨rfl, _, World.drewN_drewN _ _ _⟩ | exact ⟨rfl, _, Eq.trans (World.drewN_drewN _ _ _) (congrArg (World.drewN _) (Nat.add_assoc _ _ _))⟩)))
                            repeat (go_quiet (first | (go_at_call 37; (with_reducible refine (spec_l1In.calls a0_4 (wrap64 (a0_10 + 1)) 256 false _ A34.out).mono ?_); rintro e w' ⟨rfl, ⟨nd, rfl⟩⟩; (try first | exact ⟨rfl, _, World.drewN_drewN _ _ _⟩ | exact ⟨rfl, _, Eq.trans (World.drewN_drewN _ _ _) (congrArg (World.drewN _) (Nat.add_assoc _ _ _))⟩))); try go_wp2_with (first | (go_at_call 37; (with_reducible refine (spec_l1In.calls a0_4 (wrap64 (a0_10 + 1)) 256 false _ A34.out).mono ?_); rintro e w' ⟨rfl, ⟨nd, rfl⟩⟩; (try first | exact ⟨rfl, _, World.drewN_drewN _ _ _⟩ | exact ⟨rfl, _, Eq.trans (World.drewN_drewN _ _ _) (congrArg (World.drewN _) (Nat.add_assoc _ _ _))⟩))))
                            go_meet
                            case rel => exact ⟨_, (true), (by first | rfl | (simp; done) | (simp [*]; done)), H', ⟨by have := HJ1.out; have := HJ11.out; have := HJ19.out; first | omega | exact Nat.le_refl _⟩, ⟨by (with_reducible repeat (first | refine blk_drewN ?_ _ | refine blk_drew ?_ | refine blk_alloc ?_ _)); exact BK103.out⟩, ⟨by repeat (first | (with_reducible first | exact HB.out | apply below_alloc | apply pw_below_drewN | apply below_drew1 | refine below_set ?_ GE103.out) | exact HB.out)⟩⟩
                      · rw [if_neg c31] at H
                        have c31b0 : (a0_3 == 2) = false := beq_eq_false_iff_ne.mpr c31
                        have c31b1 : (a0_3 != 2) = true := bne_iff_ne.mpr c31
                        (first | rw [c31b0] | (simp only [i64_w, i32_w]; rw [c31b0]) | skip)
                        have H' := Aside0.mk H
                        clear H
                        have hcz38_0 : wc.cell? ⟨gb103, 0, none⟩ = some (.int .i64 a0_0) := (blk_cell BK103.out 0).trans rfl
                        have hcz38_1 : wc.cell? ⟨gb103, 1, none⟩ = some (.int .i64 a0_1) := (blk_cell BK103.out 1).trans rfl
                        have hcz38_2 : wc.cell? ⟨gb103, 2, none⟩ = some (.int .i64 a0_2) := (blk_cell BK103.out 2).trans rfl
                        have hcz38_3 : wc.cell? ⟨gb103, 3, none⟩ = some (.int .i64 a0_3) := (blk_cell BK103.out 3).trans rfl
                        have hcz38_4 : wc.cell? ⟨gb103, 4, none⟩ = some (.int .i64 a0_4) := (blk_cell BK103.out 4).trans rfl
                        have hcz38_5 : wc.cell? ⟨gb103, 5, none⟩ = some (.int .u64 a0_5) := (blk_cell BK103.out 5).trans rfl
                        have hcz38_6 : wc.cell? ⟨gb103, 6, none⟩ = some (.int .u64 a0_6) := (blk_cell BK103.out 6).trans rfl
                        have hcz38_7 : wc.cell? ⟨gb103, 7, none⟩ = some (.int .u64 a0_7) := (blk_cell BK103.out 7).trans rfl
                        have hcz38_8 : wc.cell? ⟨gb103, 8, none⟩ = some (.int .u64 a0_8) := (blk_cell BK103.out 8).trans rfl
                        have hcz38_9 : wc.cell? ⟨gb103, 9, none⟩ = some (.slice A0_9 l0_9.length c0_9) := (blk_cell BK103.out 9).trans rfl
                        have hcz38_10 : wc.cell? ⟨gb103, 10, none⟩ = some (.int .i64 a0_10) := (blk_cell BK103.out 10).trans rfl
                        have hcz38_11 : wc.cell? ⟨gb103, 11, none⟩ = some (.int .u64 a0_11) := (blk_cell BK103.out 11).trans rfl
                        have hcz38_12 : wc.cell? ⟨gb103, 12, none⟩ = some (.int .u64 a0_12) := (blk_cell BK103.out 12).trans rfl
                        have hcz38_13 : wc.cell? ⟨gb103, 13, none⟩ = some (.int .u64 a0_13) := (blk_cell BK103.out 13).trans rfl
                        have hcz38_14 : wc.cell? ⟨gb103, 14, none⟩ = some (.int .u64 a0_14) := (blk_cell BK103.out 14).trans rfl
                        have hfz38_0 := blk_frozen BK103.out 0
                        have hfz38_1 := blk_frozen BK103.out 1
                        have hfz38_2 := blk_frozen BK103.out 2
                        have hfz38_3 := blk_frozen BK103.out 3
                        have hfz38_4 := blk_frozen BK103.out 4
                        have hfz38_5 := blk_frozen BK103.out 5
                        have hfz38_6 := blk_frozen BK103.out 6
                        have hfz38_7 := blk_frozen BK103.out 7
                        have hfz38_8 := blk_frozen BK103.out 8
                        have hfz38_9 := blk_frozen BK103.out 9
                        have hfz38_10 := blk_frozen BK103.out 10
                        have hfz38_11 := blk_frozen BK103.out 11
                        have hfz38_12 := blk_frozen BK103.out 12
                        have hfz38_13 := blk_frozen BK103.out 13
                        have hfz38_14 := blk_frozen BK103.out 14
                        go_wp2
                        repeat (go_quiet (fail); try go_wp2)
                        go_meet
                        case rel => exact ⟨_, (true), (by first | rfl | (simp; done) | (simp [*]; done)), H', ⟨by have := HJ1.out; have := HJ11.out; have := HJ19.out; first | omega | exact Nat.le_refl _⟩, ⟨by (with_reducible repeat (first | refine blk_drewN ?_ _ | refine blk_drew ?_ | refine blk_alloc ?_ _)); exact BK103.out⟩, ⟨by repeat (first | (with_reducible first | exact HB.out | apply below_alloc | apply pw_below_drewN | apply below_drew1 | refine below_set ?_ GE103.out) | exact HB.out)⟩⟩
                    case rest =>
                      clear HC30
                      try clear c1
                      try clear c2
                      try clear p2
                      try clear c3
                      try clear c5
                      try clear p6
                      try clear c7
                      try clear c11
                      try clear c14
                      try clear c19
                      try clear c21
                      try clear c21b0
                      try clear c21b1
                      try clear c24
                      try clear c25
                      try clear c25b0
                      try clear c25b1
                      try clear c25b2
                      try clear c26
                      try clear c26b0
                      try clear c26b1
                      try clear c26b2
                      try clear c31
                      try clear c31b0
                      try clear c31b1
                      try clear c32
                      try clear c32b0
                      try clear c35
                      try clear hcz10_0
                      try clear hcz10_1
                      try clear hcz10_10
                      try clear hcz10_11
                      try clear hcz10_12
                      try clear hcz10_13
                      try clear hcz10_14
                      try clear hcz10_2
                      try clear hcz10_3
                      try clear hcz10_4
                      try clear hcz10_5
                      try clear hcz10_6
                      try clear hcz10_7
                      try clear hcz10_8
                      try clear hcz10_9
                      try clear hcz16_0
                      try clear hcz16_1
                      try clear hcz16_10
                      try clear hcz16_11
                      try clear hcz16_12
                      try clear hcz16_13
                      try clear hcz16_14
                      try clear hcz16_2
                      try clear hcz16_3
                      try clear hcz16_4
                      try clear hcz16_5
                      try clear hcz16_6
                      try clear hcz16_7
                      try clear hcz16_8
                      try clear hcz16_9
                      try clear hcz18_0
                      try clear hcz18_1
                      try clear hcz18_10
                      try clear hcz18_11
                      try clear hcz18_12
                      try clear hcz18_13
                      try clear hcz18_14
                      try clear hcz18_2
                      try clear hcz18_3
                      try clear hcz18_4
                      try clear hcz18_5
                      try clear hcz18_6
                      try clear hcz18_7
                      try clear hcz18_8
                      try clear hcz18_9
                      try clear hcz22_0
                      try clear hcz22_1
                      try clear hcz22_10
                      try clear hcz22_11
                      try clear hcz22_12
                      try clear hcz22_13
                      try clear hcz22_14
                      try clear hcz22_2
                      try clear hcz22_3
                      try clear hcz22_4
                      try clear hcz22_5
                      try clear hcz22_6
                      try clear hcz22_7
                      try clear hcz22_8
                      try clear hcz22_9
                      try clear hcz23_0
                      try clear hcz23_1
                      try clear hcz23_10
                      try clear hcz23_11
                      try clear hcz23_12
                      try clear hcz23_13
                      try clear hcz23_14
                      try clear hcz23_2
                      try clear hcz23_3
                      try clear hcz23_4
                      try clear hcz23_5
                      try clear hcz23_6
                      try clear hcz23_7
                      try clear hcz23_8
                      try clear hcz23_9
                      try clear hcz27_0
                      try clear hcz27_1
                      try clear hcz27_10
                      try clear hcz27_11
                      try clear hcz27_12
                      try clear hcz27_13
                      try clear hcz27_14
                      try clear hcz27_2
                      try clear hcz27_3
                      try clear hcz27_4
                      try clear hcz27_5
                      try clear hcz27_6
                      try clear hcz27_7
                      try clear hcz27_8
                      try clear hcz27_9
                      try clear hcz28_0
                      try clear hcz28_1
                      try clear hcz28_10
                      try clear hcz28_11
                      try clear hcz28_12
                      try clear hcz28_13
                      try clear hcz28_14
                      try clear hcz28_2
                      try clear hcz28_3
                      try clear hcz28_4
                      try clear hcz28_5
                      try clear hcz28_6
                      try clear hcz28_7
                      try clear hcz28_8
                      try clear hcz28_9
                      try clear hcz29_0
                      try clear hcz29_1
                      try clear hcz29_10
                      try clear hcz29_11
                      try clear hcz29_12
                      try clear hcz29_13
                      try clear hcz29_14
                      try clear hcz29_2
                      try clear hcz29_3
                      try clear hcz29_4
                      try clear hcz29_5
                      try clear hcz29_6
                      try clear hcz29_7
                      try clear hcz29_8
                      try clear hcz29_9
                      try clear hcz33_0
                      try clear hcz33_1
                      try clear hcz33_10
                      try clear hcz33_11
                      try clear hcz33_12
                      try clear hcz33_13
                      try clear hcz33_14
                      try clear hcz33_2
                      try clear hcz33_3
                      try clear hcz33_4
                      try clear hcz33_5
                      try clear hcz33_6
                      try clear hcz33_7
                      try clear hcz33_8
                      try clear hcz33_9
                      try clear hcz36_0
                      try clear hcz36_1
                      try clear hcz36_10
                      try clear hcz36_11
                      try clear hcz36_12
                      try clear hcz36_13
                      try clear hcz36_14
                      try clear hcz36_2
                      try clear hcz36_3
                      try clear hcz36_4
                      try clear hcz36_5
                      try clear hcz36_6
                      try clear hcz36_7
                      try clear hcz36_8
                      try clear hcz36_9
                      try clear hcz37_0
                      try clear hcz37_1
                      try clear hcz37_10
                      try clear hcz37_11
                      try clear hcz37_12
                      try clear hcz37_13
                      try clear hcz37_14
                      try clear hcz37_2
                      try clear hcz37_3
                      try clear hcz37_4
                      try clear hcz37_5
                      try clear hcz37_6
                      try clear hcz37_7
                      try clear hcz37_8
                      try clear hcz37_9
                      try clear hcz38_0
                      try clear hcz38_1
                      try clear hcz38_10
                      try clear hcz38_11
                      try clear hcz38_12
                      try clear hcz38_13
                      try clear hcz38_14
                      try clear hcz38_2
                      try clear hcz38_3
                      try clear hcz38_4
                      try clear hcz38_5
                      try clear hcz38_6
                      try clear hcz38_7
                      try clear hcz38_8
                      try clear hcz38_9
                      try clear hcz8_0
                      try clear hcz8_1
                      try clear hcz8_10
                      try clear hcz8_11
                      try clear hcz8_12
                      try clear hcz8_13
                      try clear hcz8_14
                      try clear hcz8_2
                      try clear hcz8_3
                      try clear hcz8_4
                      try clear hcz8_5
                      try clear hcz8_6
                      try clear hcz8_7
                      try clear hcz8_8
                      try clear hcz8_9
                      try clear hcz9_0
                      try clear hcz9_1
                      try clear hcz9_10
                      try clear hcz9_11
                      try clear hcz9_12
                      try clear hcz9_13
                      try clear hcz9_14
                      try clear hcz9_2
                      try clear hcz9_3
                      try clear hcz9_4
                      try clear hcz9_5
                      try clear hcz9_6
                      try clear hcz9_7
                      try clear hcz9_8
                      try clear hcz9_9
                      try clear hfz10_0
                      try clear hfz10_1
                      try clear hfz10_10
                      try clear hfz10_11
                      try clear hfz10_12
                      try clear hfz10_13
                      try clear hfz10_14
                      try clear hfz10_2
                      try clear hfz10_3
                      try clear hfz10_4
                      try clear hfz10_5
                      try clear hfz10_6
                      try clear hfz10_7
                      try clear hfz10_8
                      try clear hfz10_9
                      try clear hfz16_0
                      try clear hfz16_1
                      try clear hfz16_10
                      try clear hfz16_11
                      try clear hfz16_12
                      try clear hfz16_13
                      try clear hfz16_14
                      try clear hfz16_2
                      try clear hfz16_3
                      try clear hfz16_4
                      try clear hfz16_5
                      try clear hfz16_6
                      try clear hfz16_7
                      try clear hfz16_8
                      try clear hfz16_9
                      try clear hfz18_0
                      try clear hfz18_1
                      try clear hfz18_10
                      try clear hfz18_11
                      try clear hfz18_12
                      try clear hfz18_13
                      try clear hfz18_14
                      try clear hfz18_2
                      try clear hfz18_3
                      try clear hfz18_4
                      try clear hfz18_5
                      try clear hfz18_6
                      try clear hfz18_7
                      try clear hfz18_8
                      try clear hfz18_9
                      try clear hfz22_0
                      try clear hfz22_1
                      try clear hfz22_10
                      try clear hfz22_11
                      try clear hfz22_12
                      try clear hfz22_13
                      try clear hfz22_14
                      try clear hfz22_2
                      try clear hfz22_3
                      try clear hfz22_4
                      try clear hfz22_5
                      try clear hfz22_6
                      try clear hfz22_7
                      try clear hfz22_8
                      try clear hfz22_9
                      try clear hfz23_0
                      try clear hfz23_1
                      try clear hfz23_10
                      try clear hfz23_11
                      try clear hfz23_12
                      try clear hfz23_13
                      try clear hfz23_14
                      try clear hfz23_2
                      try clear hfz23_3
                      try clear hfz23_4
                      try clear hfz23_5
                      try clear hfz23_6
                      try clear hfz23_7
                      try clear hfz23_8
                      try clear hfz23_9
                      try clear hfz27_0
                      try clear hfz27_1
                      try clear hfz27_10
                      try clear hfz27_11
                      try clear hfz27_12
                      try clear hfz27_13
                      try clear hfz27_14
                      try clear hfz27_2
                      try clear hfz27_3
                      try clear hfz27_4
                      try clear hfz27_5
                      try clear hfz27_6
                      try clear hfz27_7
                      try clear hfz27_8
                      try clear hfz27_9
                      try clear hfz28_0
                      try clear hfz28_1
                      try clear hfz28_10
                      try clear hfz28_11
                      try clear hfz28_12
                      try clear hfz28_13
                      try clear hfz28_14
                      try clear hfz28_2
                      try clear hfz28_3
                      try clear hfz28_4
                      try clear hfz28_5
                      try clear hfz28_6
                      try clear hfz28_7
                      try clear hfz28_8
                      try clear hfz28_9
                      try clear hfz29_0
                      try clear hfz29_1
                      try clear hfz29_10
                      try clear hfz29_11
                      try clear hfz29_12
                      try clear hfz29_13
                      try clear hfz29_14
                      try clear hfz29_2
                      try clear hfz29_3
                      try clear hfz29_4
                      try clear hfz29_5
                      try clear hfz29_6
                      try clear hfz29_7
                      try clear hfz29_8
                      try clear hfz29_9
                      try clear hfz33_0
                      try clear hfz33_1
                      try clear hfz33_10
                      try clear hfz33_11
                      try clear hfz33_12
                      try clear hfz33_13
                      try clear hfz33_14
                      try clear hfz33_2
                      try clear hfz33_3
                      try clear hfz33_4
                      try clear hfz33_5
                      try clear hfz33_6
                      try clear hfz33_7
                      try clear hfz33_8
                      try clear hfz33_9
                      try clear hfz36_0
                      try clear hfz36_1
                      try clear hfz36_10
                      try clear hfz36_11
                      try clear hfz36_12
                      try clear hfz36_13
                      try clear hfz36_14
                      try clear hfz36_2
                      try clear hfz36_3
                      try clear hfz36_4
                      try clear hfz36_5
                      try clear hfz36_6
                      try clear hfz36_7
                      try clear hfz36_8
                      try clear hfz36_9
                      try clear hfz37_0
                      try clear hfz37_1
                      try clear hfz37_10
                      try clear hfz37_11
                      try clear hfz37_12
                      try clear hfz37_13
                      try clear hfz37_14
                      try clear hfz37_2
                      try clear hfz37_3
                      try clear hfz37_4
                      try clear hfz37_5
                      try clear hfz37_6
                      try clear hfz37_7
                      try clear hfz37_8
                      try clear hfz37_9
                      try clear hfz38_0
                      try clear hfz38_1
                      try clear hfz38_10
                      try clear hfz38_11
                      try clear hfz38_12
                      try clear hfz38_13
                      try clear hfz38_14
                      try clear hfz38_2
                      try clear hfz38_3
                      try clear hfz38_4
                      try clear hfz38_5
                      try clear hfz38_6
                      try clear hfz38_7
                      try clear hfz38_8
                      try clear hfz38_9
                      try clear hfz8_0
                      try clear hfz8_1
                      try clear hfz8_10
                      try clear hfz8_11
                      try clear hfz8_12
                      try clear hfz8_13
                      try clear hfz8_14
                      try clear hfz8_2
                      try clear hfz8_3
                      try clear hfz8_4
                      try clear hfz8_5
                      try clear hfz8_6
                      try clear hfz8_7
                      try clear hfz8_8
                      try clear hfz8_9
                      try clear hfz9_0
                      try clear hfz9_1
                      try clear hfz9_10
                      try clear hfz9_11
                      try clear hfz9_12
                      try clear hfz9_13
                      try clear hfz9_14
                      try clear hfz9_2
                      try clear hfz9_3
                      try clear hfz9_4
                      try clear hfz9_5
                      try clear hfz9_6
                      try clear hfz9_7
                      try clear hfz9_8
                      try clear hfz9_9
                      try clear p2
                      try clear p6
                      obtain ⟨kq, x85_29, rfl, HA, HJ29, BK103, HB⟩ := hcut
                      cases kq with
                      | zero => exact absurd HA.out (by simp [spec_ClientOk.j3])
                      | succ kj29 =>
                        have H := HA.out
                        clear HA
                        simp only [spec_ClientOk.j3] at H
                        by_cases c39 : x85_29 = true
                        · subst c39
                          have H1 : (some false) = some r := by rw [if_pos rfl] at H; exact H
                          clear H
                          have H := H1
                          clear H1
                          obtain rfl := Option.some.inj H
                          go_wp2
                          repeat (go_quiet (fail); try go_wp2)
                          go_ret
                          exact ⟨by first | rfl | (simp [errW_none, errW_some] <;> rfl) | (simp [*, errW_none, errW_some] <;> rfl), by repeat (first | (with_reducible first | exact HB.out | apply below_alloc | apply pw_below_drewN | apply below_drew1 | refine below_set ?_ GE103.out) | exact HB.out)⟩
                        · replace c39 := Bool.eq_false_iff.mpr c39
                          subst c39
                          have H1 : (spec_ClientOk.l0 kj29 0 a0_0 a0_1 a0_2 a0_3 a0_4 a0_5 a0_6 a0_7 a0_8 l0_9 a0_10 a0_11 a0_12 a0_13 a0_14) = some r := by rw [if_neg (show ¬ (false = true) by decide)] at H; exact H
                          clear H
                          have H := H1
                          clear H1
                          have H' := Aside0.mk H
                          clear H
                          go_wp2
                          repeat (go_quiet (fail); try go_wp2)
                          go_loopg [3] kj29 (fun kq v3 w' => ∃ (x3_5 : Int), v3 = .int .i64 x3_5 ∧ Aside0 (spec_ClientOk.l0 kq x3_5 a0_0 a0_1 a0_2 a0_3 a0_4 a0_5 a0_6 a0_7 a0_8 l0_9 a0_10 a0_11 a0_12 a0_13 a0_14 = some r) ∧ Aside0 (kq ≤ kj29) ∧ Aside0 (w'.heap[gb103]? = some (.cells #[.int .i64 a0_0, .int .i64 a0_1, .int .i64 a0_2, .int .i64 a0_3, .int .i64 a0_4, .int .u64 a0_5, .int .u64 a0_6, .int .u64 a0_7, .int .u64 a0_8, (.slice A0_9 l0_9.length c0_9), .int .i64 a0_10, .int .u64 a0_11, .int .u64 a0_12, .int .u64 a0_13, .int .u64 a0_14] 61 (0, 0))) ∧ Aside0 (Below w.heap.size w w'))
                          case atStart => exact ⟨(0), (by first | rfl | (simp; done) | (simp [*]; done)), H', ⟨Nat.le_refl _⟩, ⟨by (with_reducible repeat (first | refine blk_drewN ?_ _ | refine blk_drew ?_ | refine blk_alloc ?_ _)); exact BK103.out⟩, ⟨by repeat (first | (with_reducible first | exact HB.out | apply below_alloc | apply pw_below_drewN | apply below_drew1 | refine below_set ?_ GE103.out) | exact HB.out)⟩⟩
                          case round =>
                            clear H'
                            try clear c1
                            try clear c2
                            try clear p2
                            try clear c3
                            try clear c5
                            try clear p6
                            try clear c7
                            try clear c11
                            try clear c14
                            try clear c19
                            try clear c21
                            try clear c21b0
                            try clear c21b1
                            try clear c24
                            try clear c25
                            try clear c25b0
                            try clear c25b1
                            try clear c25b2
                            try clear c26
                            try clear c26b0
                            try clear c26b1
                            try clear c26b2
                            try clear c31
                            try clear c31b0
                            try clear c31b1
                            try clear c32
                            try clear c32b0
                            try clear c35
                            try clear c39
                            try clear hcz10_0
                            try clear hcz10_1
                            try clear hcz10_10
                            try clear hcz10_11
                            try clear hcz10_12
                            try clear hcz10_13
                            try clear hcz10_14
                            try clear hcz10_2
                            try clear hcz10_3
                            try clear hcz10_4
                            try clear hcz10_5
                            try clear hcz10_6
                            try clear hcz10_7
                            try clear hcz10_8
                            try clear hcz10_9
                            try clear hcz16_0
                            try clear hcz16_1
                            try clear hcz16_10
                            try clear hcz16_11
                            try clear hcz16_12
                            try clear hcz16_13
                            try clear hcz16_14
                            try clear hcz16_2
                            try clear hcz16_3
                            try clear hcz16_4
                            try clear hcz16_5
                            try clear hcz16_6
                            try clear hcz16_7
                            try clear hcz16_8
                            try clear hcz16_9
                            try clear hcz18_0
                            try clear hcz18_1
                            try clear hcz18_10
                            try clear hcz18_11
                            try clear hcz18_12
                            try clear hcz18_13
                            try clear hcz18_14
                            try clear hcz18_2
                            try clear hcz18_3
                            try clear hcz18_4
                            try clear hcz18_5
                            try clear hcz18_6
                            try clear hcz18_7
                            try clear hcz18_8
                            try clear hcz18_9
                            try clear hcz22_0
                            try clear hcz22_1
                            try clear hcz22_10
                            try clear hcz22_11
                            try clear hcz22_12
                            try clear hcz22_13
                            try clear hcz22_14
                            try clear hcz22_2
                            try clear hcz22_3
                            try clear hcz22_4
                            try clear hcz22_5
                            try clear hcz22_6
                            try clear hcz22_7
                            try clear hcz22_8
                            try clear hcz22_9
                            try clear hcz23_0
                            try clear hcz23_1
                            try clear hcz23_10
                            try clear hcz23_11
                            try clear hcz23_12
                            try clear hcz23_13
                            try clear hcz23_14
                            try clear hcz23_2
                            try clear hcz23_3
                            try clear hcz23_4
                            try clear hcz23_5
                            try clear hcz23_6
                            try clear hcz23_7
                            try clear hcz23_8
                            try clear hcz23_9
                            try clear hcz27_0
                            try clear hcz27_1
                            try clear hcz27_10
                            try clear hcz27_11
                            try clear hcz27_12
                            try clear hcz27_13
                            try clear hcz27_14
                            try clear hcz27_2
                            try clear hcz27_3
                            try clear hcz27_4
                            try clear hcz27_5
                            try clear hcz27_6
                            try clear hcz27_7
                            try clear hcz27_8
                            try clear hcz27_9
                            try clear hcz28_0
                            try clear hcz28_1
                            try clear hcz28_10
                            try clear hcz28_11
                            try clear hcz28_12
                            try clear hcz28_13
                            try clear hcz28_14
                            try clear hcz28_2
                            try clear hcz28_3
                            try clear hcz28_4
                            try clear hcz28_5
                            try clear hcz28_6
                            try clear hcz28_7
                            try clear hcz28_8
                            try clear hcz28_9
                            try clear hcz29_0
                            try clear hcz29_1
                            try clear hcz29_10
                            try clear hcz29_11
                            try clear hcz29_12
                            try clear hcz29_13
                            try clear hcz29_14
                            try clear hcz29_2
                            try clear hcz29_3
                            try clear hcz29_4
                            try clear hcz29_5
                            try clear hcz29_6
                            try clear hcz29_7
                            try clear hcz29_8
                            try clear hcz29_9
                            try clear hcz33_0
                            try clear hcz33_1
                            try clear hcz33_10
                            try clear hcz33_11
                            try clear hcz33_12
                            try clear hcz33_13
                            try clear hcz33_14
                            try clear hcz33_2
                            try clear hcz33_3
                            try clear hcz33_4
                            try clear hcz33_5
                            try clear hcz33_6
                            try clear hcz33_7
                            try clear hcz33_8
                            try clear hcz33_9
                            try clear hcz36_0
                            try clear hcz36_1
                            try clear hcz36_10
                            try clear hcz36_11
                            try clear hcz36_12
                            try clear hcz36_13
                            try clear hcz36_14
                            try clear hcz36_2
                            try clear hcz36_3
                            try clear hcz36_4
                            try clear hcz36_5
                            try clear hcz36_6
                            try clear hcz36_7
                            try clear hcz36_8
                            try clear hcz36_9
                            try clear hcz37_0
                            try clear hcz37_1
                            try clear hcz37_10
                            try clear hcz37_11
                            try clear hcz37_12
                            try clear hcz37_13
                            try clear hcz37_14
                            try clear hcz37_2
                            try clear hcz37_3
                            try clear hcz37_4
                            try clear hcz37_5
                            try clear hcz37_6
                            try clear hcz37_7
                            try clear hcz37_8
                            try clear hcz37_9
                            try clear hcz38_0
                            try clear hcz38_1
                            try clear hcz38_10
                            try clear hcz38_11
                            try clear hcz38_12
                            try clear hcz38_13
                            try clear hcz38_14
                            try clear hcz38_2
                            try clear hcz38_3
                            try clear hcz38_4
                            try clear hcz38_5
                            try clear hcz38_6
                            try clear hcz38_7
                            try clear hcz38_8
                            try clear hcz38_9
                            try clear hcz8_0
                            try clear hcz8_1
                            try clear hcz8_10
                            try clear hcz8_11
                            try clear hcz8_12
                            try clear hcz8_13
                            try clear hcz8_14
                            try clear hcz8_2
                            try clear hcz8_3
                            try clear hcz8_4
                            try clear hcz8_5
                            try clear hcz8_6
                            try clear hcz8_7
                            try clear hcz8_8
                            try clear hcz8_9
                            try clear hcz9_0
                            try clear hcz9_1
                            try clear hcz9_10
                            try clear hcz9_11
                            try clear hcz9_12
                            try clear hcz9_13
                            try clear hcz9_14
                            try clear hcz9_2
                            try clear hcz9_3
                            try clear hcz9_4
                            try clear hcz9_5
                            try clear hcz9_6
                            try clear hcz9_7
                            try clear hcz9_8
                            try clear hcz9_9
                            try clear hfz10_0
                            try clear hfz10_1
                            try clear hfz10_10
                            try clear hfz10_11
                            try clear hfz10_12
                            try clear hfz10_13
                            try clear hfz10_14
                            try clear hfz10_2
                            try clear hfz10_3
                            try clear hfz10_4
                            try clear hfz10_5
                            try clear hfz10_6
                            try clear hfz10_7
                            try clear hfz10_8
                            try clear hfz10_9
                            try clear hfz16_0
                            try clear hfz16_1
                            try clear hfz16_10
                            try clear hfz16_11
                            try clear hfz16_12
                            try clear hfz16_13
                            try clear hfz16_14
                            try clear hfz16_2
                            try clear hfz16_3
                            try clear hfz16_4
                            try clear hfz16_5
                            try clear hfz16_6
                            try clear hfz16_7
                            try clear hfz16_8
                            try clear hfz16_9
                            try clear hfz18_0
                            try clear hfz18_1
                            try clear hfz18_10
                            try clear hfz18_11
                            try clear hfz18_12
                            try clear hfz18_13
                            try clear hfz18_14
                            try clear hfz18_2
                            try clear hfz18_3
                            try clear hfz18_4
                            try clear hfz18_5
                            try clear hfz18_6
                            try clear hfz18_7
                            try clear hfz18_8
                            try clear hfz18_9
                            try clear hfz22_0
                            try clear hfz22_1
                            try clear hfz22_10
                            try clear hfz22_11
                            try clear hfz22_12
                            try clear hfz22_13
                            try clear hfz22_14
                            try clear hfz22_2
                            try clear hfz22_3
                            try clear hfz22_4
                            try clear hfz22_5
                            try clear hfz22_6
                            try clear hfz22_7
                            try clear hfz22_8
                            try clear hfz22_9
                            try clear hfz23_0
                            try clear hfz23_1
                            try clear hfz23_10
                            try clear hfz23_11
                            try clear hfz23_12
                            try clear hfz23_13
                            try clear hfz23_14
                            try clear hfz23_2
                            try clear hfz23_3
                            try clear hfz23_4
                            try clear hfz23_5
                            try clear hfz23_6
                            try clear hfz23_7
                            try clear hfz23_8
                            try clear hfz23_9
                            try clear hfz27_0
                            try clear hfz27_1
                            try clear hfz27_10
                            try clear hfz27_11
                            try clear hfz27_12
                            try clear hfz27_13
                            try clear hfz27_14
                            try clear hfz27_2
                            try clear hfz27_3
                            try clear hfz27_4
                            try clear hfz27_5
                            try clear hfz27_6
                            try clear hfz27_7
                            try clear hfz27_8
                            try clear hfz27_9
                            try clear hfz28_0
                            try clear hfz28_1
                            try clear hfz28_10
                            try clear hfz28_11
                            try clear hfz28_12
                            try clear hfz28_13
                            try clear hfz28_14
                            try clear hfz28_2
                            try clear hfz28_3
                            try clear hfz28_4
                            try clear hfz28_5
                            try clear hfz28_6
                            try clear hfz28_7
                            try clear hfz28_8
                            try clear hfz28_9
                            try clear hfz29_0
                            try clear hfz29_1
                            try clear hfz29_10
                            try clear hfz29_11
                            try clear hfz29_12
                            try clear hfz29_13
                            try clear hfz29_14
                            try clear hfz29_2
                            try clear hfz29_3
                            try clear hfz29_4
                            try clear hfz29_5
                            try clear hfz29_6
                            try clear hfz29_7
                            try clear hfz29_8
                            try clear hfz29_9
                            try clear hfz33_0
                            try clear hfz33_1
                            try clear hfz33_10
                            try clear hfz33_11
                            try clear hfz33_12
                            try clear hfz33_13
                            try clear hfz33_14
                            try clear hfz33_2
                            try clear hfz33_3
                            try clear hfz33_4
                            try clear hfz33_5
                            try clear hfz33_6
                            try clear hfz33_7
                            try clear hfz33_8
                            try clear hfz33_9
                            try clear hfz36_0
                            try clear hfz36_1
                            try clear hfz36_10
                            try clear hfz36_11
                            try clear hfz36_12
                            try clear hfz36_13
                            try clear hfz36_14
                            try clear hfz36_2
                            try clear hfz36_3
                            try clear hfz36_4
                            try clear hfz36_5
                            try clear hfz36_6
                            try clear hfz36_7
                            try clear hfz36_8
                            try clear hfz36_9
                            try clear hfz37_0
                            try clear hfz37_1
                            try clear hfz37_10
                            try clear hfz37_11
                            try clear hfz37_12
                            try clear hfz37_13
                            try clear hfz37_14
                            try clear hfz37_2
                            try clear hfz37_3
                            try clear hfz37_4
                            try clear hfz37_5
                            try clear hfz37_6
                            try clear hfz37_7
                            try clear hfz37_8
                            try clear hfz37_9
                            try clear hfz38_0
                            try clear hfz38_1
                            try clear hfz38_10
                            try clear hfz38_11
                            try clear hfz38_12
                            try clear hfz38_13
                            try clear hfz38_14
                            try clear hfz38_2
                            try clear hfz38_3
                            try clear hfz38_4
                            try clear hfz38_5
                            try clear hfz38_6
                            try clear hfz38_7
                            try clear hfz38_8
                            try clear hfz38_9
                            try clear hfz8_0
                            try clear hfz8_1
                            try clear hfz8_10
                            try clear hfz8_11
                            try clear hfz8_12
                            try clear hfz8_13
                            try clear hfz8_14
                            try clear hfz8_2
                            try clear hfz8_3
                            try clear hfz8_4
                            try clear hfz8_5
                            try clear hfz8_6
                            try clear hfz8_7
                            try clear hfz8_8
                            try clear hfz8_9
                            try clear hfz9_0
                            try clear hfz9_1
                            try clear hfz9_10
                            try clear hfz9_11
                            try clear hfz9_12
                            try clear hfz9_13
                            try clear hfz9_14
                            try clear hfz9_2
                            try clear hfz9_3
                            try clear hfz9_4
                            try clear hfz9_5
                            try clear hfz9_6
                            try clear hfz9_7
                            try clear hfz9_8
                            try clear hfz9_9
                            try clear p2
                            try clear p6
                            obtain ⟨x3_5, rfl, HA, HK5, BK103, HB⟩ := hrel
                            cases gk with
                            | zero => exact absurd HA.out (by simp [spec_ClientOk.l0])
                            | succ k5 =>
                              have H := HA.out
                              clear HA
                              simp only [spec_ClientOk.l0] at H
                              by_cases c40 : x3_5 < (l0_9.length : Int)
                              · rw [if_pos c40] at H
                                have c40b0 : decide (x3_5 < (l0_9.length : Int)) = true := decide_eq_true c40
                                clear c40
                                by_cases c41 : 0 ≤ x3_5
                                · rw [if_pos c41] at H
                                  have c41b0 : decide (0 ≤ x3_5) = true := decide_eq_true c41
                                  clear c41
                                  replace H := Option.bind_eq_some_iff.mp H
                                  obtain ⟨t110, A420, H⟩ := H
                                  replace H : (if t110 = true then (if x3_5 > 0 then (if 0 ≤ (wrap64 (x3_5 - 1)) then (if (wrap64 (x3_5 - 1)) < (l0_9.length : Int) then (if (rd l0_9 (wrap64 (x3_5 - 1))) ≥ (rd l0_9 x3_5) then (some false) else (spec_ClientOk.l0 k5 (wrap64 (x3_5 + 1)) a0_0 a0_1 a0_2 a0_3 a0_4 a0_5 a0_6 a0_7 a0_8 l0_9 a0_10 a0_11 a0_12 a0_13 a0_14)) else (none)) else (none)) else (spec_ClientOk.l0 k5 (wrap64 (x3_5 + 1)) a0_0 a0_1 a0_2 a0_3 a0_4 a0_5 a0_6 a0_7 a0_8 l0_9 a0_10 a0_11 a0_12 a0_13 a0_14)) else (some false)) = some r := H
                                  have A42 := Aside0.mk A420
                                  clear A420
                                  by_cases c43 : t110 = true
                                  · subst c43
                                    have H1 : (if x3_5 > 0 then (if 0 ≤ (wrap64 (x3_5 - 1)) then (if (wrap64 (x3_5 - 1)) < (l0_9.length : Int) then (if (rd l0_9 (wrap64 (x3_5 - 1))) ≥ (rd l0_9 x3_5) then (some false) else (spec_ClientOk.l0 k5 (wrap64 (x3_5 + 1)) a0_0 a0_1 a0_2 a0_3 a0_4 a0_5 a0_6 a0_7 a0_8 l0_9 a0_10 a0_11 a0_12 a0_13 a0_14)) else (none)) else (none)) else (spec_ClientOk.l0 k5 (wrap64 (x3_5 + 1)) a0_0 a0_1 a0_2 a0_3 a0_4 a0_5 a0_6 a0_7 a0_8 l0_9 a0_10 a0_11 a0_12 a0_13 a0_14)) = some r := by rw [if_pos rfl] at H; exact H
                                    clear H
                                    have H := H1
                                    clear H1
                                    by_cases c44 : x3_5 > 0
                                    · rw [if_pos c44] at H
                                      have c44b0 : decide (0 < x3_5) = true := decide_eq_true c44
                                      clear c44
                                      obtain ⟨ji45, hji45⟩ : ∃ j_ : Int, (wrap64 (x3_5 - 1)) = j_ := ⟨_, rfl⟩
                                      replace H : (if 0 ≤ (ji45) then (if (ji45) < (l0_9.length : Int) then (if (rd l0_9 (ji45)) ≥ (rd l0_9 x3_5) then (some false) else (spec_ClientOk.l0 k5 (wrap64 (x3_5 + 1)) a0_0 a0_1 a0_2 a0_3 a0_4 a0_5 a0_6 a0_7 a0_8 l0_9 a0_10 a0_11 a0_12 a0_13 a0_14)) else (none)) else (none)) = some r := by first | (rw [hji45] at H; exact H) | (simp only [hji45] at H ⊢; exact H)
                                      (try rw [hji45] at A42)
                                      have hji45w : (IntKind.i64.wrap (x3_5 - 1)) = ji45 := (i64_w _).trans hji45
                                      by_cases c46 : 0 ≤ (ji45)
                                      · rw [if_pos c46] at H
                                        have c46b0 : decide (0 ≤ (ji45)) = true := decide_eq_true c46
                                        clear c46
                                        by_cases c47 : (ji45) < (l0_9.length : Int)
                                        · rw [if_pos c47] at H
                                          have c47b0 : decide ((ji45) < (l0_9.length : Int)) = true := decide_eq_true c47
                                          clear c47
                                          by_cases c48 : (rd l0_9 (ji45)) ≥ (rd l0_9 x3_5)
                                          · rw [if_pos c48] at H
                                            have c48b0 : decide ((rd l0_9 x3_5) ≤ (rd l0_9 (ji45))) = true := decide_eq_true c48
                                            clear c48
                                            obtain rfl := Option.some.inj H
                                            have hcz49_0 : wr.cell? ⟨gb103, 0, none⟩ = some (.int .i64 a0_0) := (blk_cell BK103.out 0).trans rfl
                                            have hcz49_1 : wr.cell? ⟨gb103, 1, none⟩ = some (.int .i64 a0_1) := (blk_cell BK103.out 1).trans rfl
                                            have hcz49_2 : wr.cell? ⟨gb103, 2, none⟩ = some (.int .i64 a0_2) := (blk_cell BK103.out 2).trans rfl
                                            have hcz49_3 : wr.cell? ⟨gb103, 3, none⟩ = some (.int .i64 a0_3) := (blk_cell BK103.out 3).trans rfl
                                            have hcz49_4 : wr.cell? ⟨gb103, 4, none⟩ = some (.int .i64 a0_4) := (blk_cell BK103.out 4).trans rfl
                                            have hcz49_5 : wr.cell? ⟨gb103, 5, none⟩ = some (.int .u64 a0_5) := (blk_cell BK103.out 5).trans rfl
                                            have hcz49_6 : wr.cell? ⟨gb103, 6, none⟩ = some (.int .u64 a0_6) := (blk_cell BK103.out 6).trans rfl
                                            have hcz49_7 : wr.cell? ⟨gb103, 7, none⟩ = some (.int .u64 a0_7) := (blk_cell BK103.out 7).trans rfl
                                            have hcz49_8 : wr.cell? ⟨gb103, 8, none⟩ = some (.int .u64 a0_8) := (blk_cell BK103.out 8).trans rfl
                                            have hcz49_9 : wr.cell? ⟨gb103, 9, none⟩ = some (.slice A0_9 l0_9.length c0_9) := (blk_cell BK103.out 9).trans rfl
                                            have hcz49_10 : wr.cell? ⟨gb103, 10, none⟩ = some (.int .i64 a0_10) := (blk_cell BK103.out 10).trans rfl
                                            have hcz49_11 : wr.cell? ⟨gb103, 11, none⟩ = some (.int .u64 a0_11) := (blk_cell BK103.out 11).trans rfl
                                            have hcz49_12 : wr.cell? ⟨gb103, 12, none⟩ = some (.int .u64 a0_12) := (blk_cell BK103.out 12).trans rfl
                                            have hcz49_13 : wr.cell? ⟨gb103, 13, none⟩ = some (.int .u64 a0_13) := (blk_cell BK103.out 13).trans rfl
                                            have hcz49_14 : wr.cell? ⟨gb103, 14, none⟩ = some (.int .u64 a0_14) := (blk_cell BK103.out 14).trans rfl
                                            have hfz49_0 := blk_frozen BK103.out 0
                                            have hfz49_1 := blk_frozen BK103.out 1
                                            have hfz49_2 := blk_frozen BK103.out 2
                                            have hfz49_3 := blk_frozen BK103.out 3
                                            have hfz49_4 := blk_frozen BK103.out 4
                                            have hfz49_5 := blk_frozen BK103.out 5
                                            have hfz49_6 := blk_frozen BK103.out 6
                                            have hfz49_7 := blk_frozen BK103.out 7
                                            have hfz49_8 := blk_frozen BK103.out 8
                                            have hfz49_9 := blk_frozen BK103.out 9
                                            have hfz49_10 := blk_frozen BK103.out 10
                                            have hfz49_11 := blk_frozen BK103.out 11
                                            have hfz49_12 := blk_frozen BK103.out 12
                                            have hfz49_13 := blk_frozen BK103.out 13
                                            have hfz49_14 := blk_frozen BK103.out 14
                                            have p109 : 0 ≤ (x3_5 : Int) := of_decide_eq_true (by first | (with_reducible assumption) | assumption)
                                            have q109 : x3_5 < (l0_9.length : Int) := of_decide_eq_true (by first | (with_reducible assumption) | assumption)
                                            obtain ⟨ad109, e109, hx109_0⟩ := Kd.at_int HR0_9.out x3_5 p109 q109
                                            cases e109
                                            replace hx109_0 := (HB.out.cell (World.block_lt_of_cell? w _ hx109_0)).trans hx109_0
                                            replace p109 := eq_true p109
                                            replace q109 := eq_true q109
                                            go_wp2_with (first | (go_at_call 37; (with_reducible refine (spec_l1In.calls (rd l0_9 x3_5) 1 a0_1 true _ A42.out).mono ?_); rintro e w' ⟨rfl, ⟨nd, rfl⟩⟩; (try first | exact ⟨rfl, _, World.drewN_drewN _ _ _⟩ | exact ⟨rfl, _, Eq.trans (World.drewN_drewN _ _ _) (congrArg (World.drewN _) (Nat.add_assoc _ _ _))⟩); have p111 : 0 ≤ ((ji45) : Int) := of_decide_eq_true (by first | (with_reducible assumption) | assumption); have q111 : (ji45) < (l0_9.length : Int) := of_decide_eq_true (by first | (with_reducible assumption) | assumption); obtain ⟨ad111, e111, hx111_0⟩ := Kd.at_int HR0_9.out (ji45) p111 q111; obtain rfl : ad109 = ad111 := (by injection e111); replace hx111_0 := (HB.out.cell (World.block_lt_of_cell? w _ hx111_0)).trans hx111_0; replace p111 := eq_true p111; replace q111 := eq_true q111; have p112 : 0 ≤ (x3_5 : Int) := of_decide_eq_true (by first | (with_reducible assumption) | assumption); have q112 : x3_5 < (l0_9.length : Int) := of_decide_eq_true (by first | (with_reducible assumption) | assumption); obtain ⟨ad112, e112, hx112_0⟩ := Kd.at_int HR0_9.out x3_5 p112 q112; obtain rfl : ad109 = ad112 := (by injection e112); replace hx112_0 := (HB.out.cell (World.block_lt_of_cell? w _ hx112_0)).trans hx112_0; replace p112 := eq_true p112; replace q112 := eq_true q112))
                                            repeat (go_quiet (first | (go_at_call 37; (with_reducible refine (spec_l1In.calls (rd l0_9 x3_5) 1 a0_1 true _ A42.out).mono ?_); rintro e w' ⟨rfl, ⟨nd, rfl⟩⟩; (try first | exact ⟨rfl, _, World.drewN_drewN _ _ _⟩ | exact ⟨rfl, _, Eq.trans (World.drewN_drewN _ _ _) (congrArg (World.drewN _) (Nat.add_assoc _ _ _))⟩); have p111 : 0 ≤ ((ji45) : Int) := of_decide_eq_true (by first | (with_reducible assumption) | assumption); have q111 : (ji45) < (l0_9.length : Int) := of_decide_eq_true (by first | (with_reducible assumption) | assumption); obtain ⟨ad111, e111, hx111_0⟩ := Kd.at_int HR0_9.out (ji45) p111 q111; obtain rfl : ad109 = ad111 := (by injection e111); replace hx111_0 := (HB.out.cell (World.block_lt_of_cell? w _ hx111_0)).trans hx111_0; replace p111 := eq_true p111; replace q111 := eq_true q111; have p112 : 0 ≤ (x3_5 : Int) := of_decide_eq_true (by first | (with_reducible assumption) | assumption); have q112 : x3_5 < (l0_9.length : Int) := of_decide_eq_true (by first | (with_reducible assumption) | assumption); obtain ⟨ad112, e112, hx112_0⟩ := Kd.at_int HR0_9.out x3_5 p112 q112; obtain rfl : ad109 = ad112 := (by injection e112); replace hx112_0 := (HB.out.cell (World.block_lt_of_cell? w _ hx112_0)).trans hx112_0; replace p112 := eq_true p112; replace q112 := eq_true q112)); try go_wp2_with (first | (go_at_call 37; (with_reducible refine (spec_l1In.calls (rd l0_9 x3_5) 1 a0_1 true _ A42.out).mono ?_); rintro e w' ⟨rfl, ⟨nd, rfl⟩⟩; (try first | exact ⟨rfl, _, World.drewN_drewN _ _ _⟩ | exact ⟨rfl, _, Eq.trans (World.drewN_drewN _ _ _) (congrArg (World.drewN _) (Nat.add_assoc _ _ _))⟩); have p111 : 0 ≤ ((ji45) : Int) := of_decide_eq_true (by first | (with_reducible assumption) | assumption); have q111 : (ji45) < (l0_9.length : Int) := of_decide_eq_true (by first | (with_reducible assumption) | assumption); obtain ⟨ad111, e111, hx111_0⟩ := Kd.at_int HR0_9.out (ji45) p111 q111; obtain rfl : ad109 = ad111 := (by injection e111); replace hx111_0 := (HB.out.cell (World.block_lt_of_cell? w _ hx111_0)).trans hx111_0; replace p111 := eq_true p111; replace q111 := eq_true q111; have p112 : 0 ≤ (x3_5 : Int) := of_decide_eq_true (by first | (with_reducible assumption) | assumption); have q112 : x3_5 < (l0_9.length : Int) := of_decide_eq_true (by first | (with_reducible assumption) | assumption); obtain ⟨ad112, e112, hx112_0⟩ := Kd.at_int HR0_9.out x3_5 p112 q112; obtain rfl : ad109 = ad112 := (by injection e112); replace hx112_0 := (HB.out.cell (World.block_lt_of_cell? w _ hx112_0)).trans hx112_0; replace p112 := eq_true p112; replace q112 := eq_true q112)))
                                            go_ret
                                            exact ⟨by first | rfl | (simp [errW_none, errW_some] <;> rfl) | (simp only [← hji45]; first | rfl | (simp [errW_none, errW_some] <;> rfl)) | (simp [*, errW_none, errW_some] <;> rfl), by repeat (first | (with_reducible first | exact HB.out | apply below_alloc | apply pw_below_drewN | apply below_drew1 | refine below_set ?_ GE103.out) | exact HB.out)⟩
                                          · rw [if_neg c48] at H
                                            have c48b0 : decide ((rd l0_9 x3_5) ≤ (rd l0_9 (ji45))) = false := decide_eq_false c48
                                            clear c48
                                            have H' := Aside0.mk H
                                            clear H
                                            have hcz50_0 : wr.cell? ⟨gb103, 0, none⟩ = some (.int .i64 a0_0) := (blk_cell BK103.out 0).trans rfl
                                            have hcz50_1 : wr.cell? ⟨gb103, 1, none⟩ = some (.int .i64 a0_1) := (blk_cell BK103.out 1).trans rfl
                                            have hcz50_2 : wr.cell? ⟨gb103, 2, none⟩ = some (.int .i64 a0_2) := (blk_cell BK103.out 2).trans rfl
                                            have hcz50_3 : wr.cell? ⟨gb103, 3, none⟩ = some (.int .i64 a0_3) := (blk_cell BK103.out 3).trans rfl
                                            have hcz50_4 : wr.cell? ⟨gb103, 4, none⟩ = some (.int .i64 a0_4) := (blk_cell BK103.out 4).trans rfl
                                            have hcz50_5 : wr.cell? ⟨gb103, 5, none⟩ = some (.int .u64 a0_5) := (blk_cell BK103.out 5).trans rfl
                                            have hcz50_6 : wr.cell? ⟨gb103, 6, none⟩ = some (.int .u64 a0_6) := (blk_cell BK103.out 6).trans rfl
                                            have hcz50_7 : wr.cell? ⟨gb103, 7, none⟩ = some (.int .u64 a0_7) := (blk_cell BK103.out 7).trans rfl
                                            have hcz50_8 : wr.cell? ⟨gb103, 8, none⟩ = some (.int .u64 a0_8) := (blk_cell BK103.out 8).trans rfl
                                            have hcz50_9 : wr.cell? ⟨gb103, 9, none⟩ = some (.slice A0_9 l0_9.length c0_9) := (blk_cell BK103.out 9).trans rfl
                                            have hcz50_10 : wr.cell? ⟨gb103, 10, none⟩ = some (.int .i64 a0_10) := (blk_cell BK103.out 10).trans rfl
                                            have hcz50_11 : wr.cell? ⟨gb103, 11, none⟩ = some (.int .u64 a0_11) := (blk_cell BK103.out 11).trans rfl
                                            have hcz50_12 : wr.cell? ⟨gb103, 12, none⟩ = some (.int .u64 a0_12) := (blk_cell BK103.out 12).trans rfl
                                            have hcz50_13 : wr.cell? ⟨gb103, 13, none⟩ = some (.int .u64 a0_13) := (blk_cell BK103.out 13).trans rfl
                                            have hcz50_14 : wr.cell? ⟨gb103, 14, none⟩ = some (.int .u64 a0_14) := (blk_cell BK103.out 14).trans rfl
                                            have hfz50_0 := blk_frozen BK103.out 0
                                            have hfz50_1 := blk_frozen BK103.out 1
                                            have hfz50_2 := blk_frozen BK103.out 2
                                            have hfz50_3 := blk_frozen BK103.out 3
                                            have hfz50_4 := blk_frozen BK103.out 4
                                            have hfz50_5 := blk_frozen BK103.out 5
                                            have hfz50_6 := blk_frozen BK103.out 6
                                            have hfz50_7 := blk_frozen BK103.out 7
                                            have hfz50_8 := blk_frozen BK103.out 8
                                            have hfz50_9 := blk_frozen BK103.out 9
                                            have hfz50_10 := blk_frozen BK103.out 10
                                            have hfz50_11 := blk_frozen BK103.out 11
                                            have hfz50_12 := blk_frozen BK103.out 12
                                            have hfz50_13 := blk_frozen BK103.out 13
                                            have hfz50_14 := blk_frozen BK103.out 14
                                            have p109 : 0 ≤ (x3_5 : Int) := of_decide_eq_true (by first | (with_reducible assumption) | assumption)
                                            have q109 : x3_5 < (l0_9.length : Int) := of_decide_eq_true (by first | (with_reducible assumption) | assumption)
                                            obtain ⟨ad109, e109, hx109_0⟩ := Kd.at_int HR0_9.out x3_5 p109 q109
                                            cases e109
                                            replace hx109_0 := (HB.out.cell (World.block_lt_of_cell? w _ hx109_0)).trans hx109_0
                                            replace p109 := eq_true p109
                                            replace q109 := eq_true q109
                                            go_wp2_with (first | (go_at_call 37; (with_reducible refine (spec_l1In.calls (rd l0_9 x3_5) 1 a0_1 true _ A42.out).mono ?_); rintro e w' ⟨rfl, ⟨nd, rfl⟩⟩; (try first | exact ⟨rfl, _, World.drewN_drewN _ _ _⟩ | exact ⟨rfl, _, Eq.trans (World.drewN_drewN _ _ _) (congrArg (World.drewN _) (Nat.add_assoc _ _ _))⟩); have p111 : 0 ≤ ((ji45) : Int) := of_decide_eq_true (by first | (with_reducible assumption) | assumption); have q111 : (ji45) < (l0_9.length : Int) := of_decide_eq_true (by first | (with_reducible assumption) | assumption); obtain ⟨ad111, e111, hx111_0⟩ := Kd.at_int HR0_9.out (ji45) p111 q111; obtain rfl : ad109 = ad111 := (by injection e111); replace hx111_0 := (HB.out.cell (World.block_lt_of_cell? w _ hx111_0)).trans hx111_0; replace p111 := eq_true p111; replace q111 := eq_true q111; have p112 : 0 ≤ (x3_5 : Int) := of_decide_eq_true (by first | (with_reducible assumption) | assumption); have q112 : x3_5 < (l0_9.length : Int) := of_decide_eq_true (by first | (with_reducible assumption) | assumption); obtain ⟨ad112, e112, hx112_0⟩ := Kd.at_int HR0_9.out x3_5 p112 q112; obtain rfl : ad109 = ad112 := (by injection e112); replace hx112_0 := (HB.out.cell (World.block_lt_of_cell? w _ hx112_0)).trans hx112_0; replace p112 := eq_true p112; replace q112 := eq_true q112))
                                            repeat (go_quiet (first | (go_at_call 37; (with_reducible refine (spec_l1In.calls (rd l0_9 x3_5) 1 a0_1 true _ A42.out).mono ?_); rintro e w' ⟨rfl, ⟨nd, rfl⟩⟩; (try first | exact ⟨rfl, _, World.drewN_drewN _ _ _⟩ | exact ⟨rfl, _, Eq.trans (World.drewN_drewN _ _ _) (congrArg (World.drewN _) (Nat.add_assoc _ _ _))⟩); have p111 : 0 ≤ ((ji45) : Int) := of_decide_eq_true (by first | (with_reducible assumption) | assumption); have q111 : (ji45) < (l0_9.length : Int) := of_decide_eq_true (by first | (with_reducible assumption) | assumption); obtain ⟨ad111, e111, hx111_0⟩ := Kd.at_int HR0_9.out (ji45) p111 q111; obtain rfl : ad109 = ad111 := (by injection e111); replace hx111_0 := (HB.out.cell (World.block_lt_of_cell? w _ hx111_0)).trans hx111_0; replace p111 := eq_true p111; replace q111 := eq_true q111; have p112 : 0 ≤ (x3_5 : Int) := of_decide_eq_true (by first | (with_reducible assumption) | assumption); have q112 : x3_5 < (l0_9.length : Int) := of_decide_eq_true (by first | (with_reducible assumption) | assumption); obtain ⟨ad112, e112, hx112_0⟩ := Kd.at_int HR0_9.out x3_5 p112 q112; obtain rfl : ad109 = ad112 := (by injection e112); replace hx112_0 := (HB.out.cell (World.block_lt_of_cell? w _ hx112_0)).trans hx112_0; replace p112 := eq_true p112; replace q112 := eq_true q112)); try go_wp2_with (first | (go_at_call 37; (with_reducible refine (spec_l1In.calls (rd l0_9 x3_5) 1 a0_1 true _ A42.out).mono ?_); rintro e w' ⟨rfl, ⟨nd, rfl⟩⟩; (try first | exact ⟨rfl, _, World.drewN_drewN _ _ _⟩ | exact ⟨rfl, _, Eq.trans (World.drewN_drewN _ _ _) (congrArg (World.drewN _) (Nat.add_assoc _ _ _))⟩); have p111 : 0 ≤ ((ji45) : Int) := of_decide_eq_true (by first | (with_reducible assumption) | assumption); have q111 : (ji45) < (l0_9.length : Int) := of_decide_eq_true (by first | (with_reducible assumption) | assumption); obtain ⟨ad111, e111, hx111_0⟩ := Kd.at_int HR0_9.out (ji45) p111 q111; obtain rfl : ad109 = ad111 := (by injection e111); replace hx111_0 := (HB.out.cell (World.block_lt_of_cell? w _ hx111_0)).trans hx111_0; replace p111 := eq_true p111; replace q111 := eq_true q111; have p112 : 0 ≤ (x3_5 : Int) := of_decide_eq_true (by first | (with_reducible assumption) | assumption); have q112 : x3_5 < (l0_9.length : Int) := of_decide_eq_true (by first | (with_reducible assumption) | assumption); obtain ⟨ad112, e112, hx112_0⟩ := Kd.at_int HR0_9.out x3_5 p112 q112; obtain rfl : ad109 = ad112 := (by injection e112); replace hx112_0 := (HB.out.cell (World.block_lt_of_cell? w _ hx112_0)).trans hx112_0; replace p112 := eq_true p112; replace q112 := eq_true q112)))
                                            go_roundg k5
                                            case measure => have := HJ1.out; have := HJ11.out; have := HJ19.out; have := HJ29.out; have := HK5.out; omega
                                            case rel => exact ⟨(wrap64 (x3_5 + 1)), (by first | rfl | (simp; done) | (simp [*]; done)), H', ⟨by have := HJ1.out; have := HJ11.out; have := HJ19.out; have := HJ29.out; have := HK5.out; omega⟩, ⟨by (with_reducible repeat (first | refine blk_drewN ?_ _ | refine blk_drew ?_ | refine blk_alloc ?_ _)); exact BK103.out⟩, ⟨by repeat (first | (with_reducible first | exact HB.out | apply below_alloc | apply pw_below_drewN | apply below_drew1 | refine below_set ?_ GE103.out) | exact HB.out)⟩⟩
                                        · rw [if_neg c47] at H
                                          exact absurd H (by simp)
                                      · rw [if_neg c46] at H
                                        exact absurd H (by simp)
                                    · rw [if_neg c44] at H
                                      have c44b0 : decide (0 < x3_5) = false := decide_eq_false c44
                                      clear c44
                                      have H' := Aside0.mk H
                                      clear H
                                      have hcz51_0 : wr.cell? ⟨gb103, 0, none⟩ = some (.int .i64 a0_0) := (blk_cell BK103.out 0).trans rfl
                                      have hcz51_1 : wr.cell? ⟨gb103, 1, none⟩ = some (.int .i64 a0_1) := (blk_cell BK103.out 1).trans rfl
                                      have hcz51_2 : wr.cell? ⟨gb103, 2, none⟩ = some (.int .i64 a0_2) := (blk_cell BK103.out 2).trans rfl
                                      have hcz51_3 : wr.cell? ⟨gb103, 3, none⟩ = some (.int .i64 a0_3) := (blk_cell BK103.out 3).trans rfl
                                      have hcz51_4 : wr.cell? ⟨gb103, 4, none⟩ = some (.int .i64 a0_4) := (blk_cell BK103.out 4).trans rfl
                                      have hcz51_5 : wr.cell? ⟨gb103, 5, none⟩ = some (.int .u64 a0_5) := (blk_cell BK103.out 5).trans rfl
                                      have hcz51_6 : wr.cell? ⟨gb103, 6, none⟩ = some (.int .u64 a0_6) := (blk_cell BK103.out 6).trans rfl
                                      have hcz51_7 : wr.cell? ⟨gb103, 7, none⟩ = some (.int .u64 a0_7) := (blk_cell BK103.out 7).trans rfl
                                      have hcz51_8 : wr.cell? ⟨gb103, 8, none⟩ = some (.int .u64 a0_8) := (blk_cell BK103.out 8).trans rfl
                                      have hcz51_9 : wr.cell? ⟨gb103, 9, none⟩ = some (.slice A0_9 l0_9.length c0_9) := (blk_cell BK103.out 9).trans rfl
                                      have hcz51_10 : wr.cell? ⟨gb103, 10, none⟩ = some (.int .i64 a0_10) := (blk_cell BK103.out 10).trans rfl
                                      have hcz51_11 : wr.cell? ⟨gb103, 11, none⟩ = some (.int .u64 a0_11) := (blk_cell BK103.out 11).trans rfl
                                      have hcz51_12 : wr.cell? ⟨gb103, 12, none⟩ = some (.int .u64 a0_12) := (blk_cell BK103.out 12).trans rfl
                                      have hcz51_13 : wr.cell? ⟨gb103, 13, none⟩ = some (.int .u64 a0_13) := (blk_cell BK103.out 13).trans rfl
                                      have hcz51_14 : wr.cell? ⟨gb103, 14, none⟩ = some (.int .u64 a0_14) := (blk_cell BK103.out 14).trans rfl
                                      have hfz51_0 := blk_frozen BK103.out 0
                                      have hfz51_1 := blk_frozen BK103.out 1
                                      have hfz51_2 := blk_frozen BK103.out 2
                                      have hfz51_3 := blk_frozen BK103.out 3
                                      have hfz51_4 := blk_frozen BK103.out 4
                                      have hfz51_5 := blk_frozen BK103.out 5
                                      have hfz51_6 := blk_frozen BK103.out 6
                                      have hfz51_7 := blk_frozen BK103.out 7
                                      have hfz51_8 := blk_frozen BK103.out 8
                                      have hfz51_9 := blk_frozen BK103.out 9
                                      have hfz51_10 := blk_frozen BK103.out 10
                                      have hfz51_11 := blk_frozen BK103.out 11
                                      have hfz51_12 := blk_frozen BK103.out 12
                                      have hfz51_13 := blk_frozen BK103.out 13
                                      have hfz51_14 := blk_frozen BK103.out 14
                                      have p109 : 0 ≤ (x3_5 : Int) := of_decide_eq_true (by first | (with_reducible assumption) | assumption)
                                      have q109 : x3_5 < (l0_9.length : Int) := of_decide_eq_true (by first | (with_reducible assumption) | assumption)
                                      obtain ⟨ad109, e109, hx109_0⟩ := Kd.at_int HR0_9.out x3_5 p109 q109
                                      cases e109
                                      replace hx109_0 := (HB.out.cell (World.block_lt_of_cell? w _ hx109_0)).trans hx109_0
                                      replace p109 := eq_true p109
                                      replace q109 := eq_true q109
                                      go_wp2_with (first | (go_at_call 37; (with_reducible refine (spec_l1In.calls (rd l0_9 x3_5) 1 a0_1 true _ A42.out).mono ?_); rintro e w' ⟨rfl, ⟨nd, rfl⟩⟩; (try first | exact ⟨rfl, _, World.drewN_drewN _ _ _⟩ | exact ⟨rfl, _, Eq.trans (World.drewN_drewN _ _ _) (congrArg (World.drewN _) (Nat.add_assoc _ _ _))⟩)))
                                      repeat (go_quiet (first | (go_at_call 37; (with_reducible refine (spec_l1In.calls (rd l0_9 x3_5) 1 a0_1 true _ A42.out).mono ?_); rintro e w' ⟨rfl, ⟨nd, rfl⟩⟩; (try first | exact ⟨rfl, _, World.drewN_drewN _ _ _⟩ | exact ⟨rfl, _, Eq.trans (World.drewN_drewN _ _ _) (congrArg (World.drewN _) (Nat.add_assoc _ _ _))⟩))); try go_wp2_with (first | (go_at_call 37; (with_reducible refine (spec_l1In.calls (rd l0_9 x3_5) 1 a0_1 true _ A42.out).mono ?_); rintro e w' ⟨rfl, ⟨nd, rfl⟩⟩; (try first | exact ⟨rfl, _, World.drewN_drewN _ _ _⟩ | exact ⟨rfl, _, Eq.trans (World.drewN_drewN _ _ _) (congrArg (World.drewN _) (Nat.add_assoc _ _ _))⟩))))
                                      go_roundg k5
                                      case measure => have := HJ1.out; have := HJ11.out; have := HJ19.out; have := HJ29.out; have := HK5.out; omega
                                      case rel => exact ⟨(wrap64 (x3_5 + 1)), (by first | rfl | (simp; done) | (simp [*]; done)), H', ⟨by have := HJ1.out; have := HJ11.out; have := HJ19.out; have := HJ29.out; have := HK5.out; omega⟩, ⟨by (with_reducible repeat (first | refine blk_drewN ?_ _ | refine blk_drew ?_ | refine blk_alloc ?_ _)); exact BK103.out⟩, ⟨by repeat (first | (with_reducible first | exact HB.out | apply below_alloc | apply pw_below_drewN | apply below_drew1 | refine below_set ?_ GE103.out) | exact HB.out)⟩⟩
                                  · replace c43 := Bool.eq_false_iff.mpr c43
                                    subst c43
                                    have H1 : (some false) = some r := by rw [if_neg (show ¬ (false = true) by decide)] at H; exact H
                                    clear H
                                    have H := H1
                                    clear H1
                                    obtain rfl := Option.some.inj H
                                    have hcz52_0 : wr.cell? ⟨gb103, 0, none⟩ = some (.int .i64 a0_0) := (blk_cell BK103.out 0).trans rfl
                                    have hcz52_1 : wr.cell? ⟨gb103, 1, none⟩ = some (.int .i64 a0_1) := (blk_cell BK103.out 1).trans rfl
                                    have hcz52_2 : wr.cell? ⟨gb103, 2, none⟩ = some (.int .i64 a0_2) := (blk_cell BK103.out 2).trans rfl
                                    have hcz52_3 : wr.cell? ⟨gb103, 3, none⟩ = some (.int .i64 a0_3) := (blk_cell BK103.out 3).trans rfl
                                    have hcz52_4 : wr.cell? ⟨gb103, 4, none⟩ = some (.int .i64 a0_4) := (blk_cell BK103.out 4).trans rfl
                                    have hcz52_5 : wr.cell? ⟨gb103, 5, none⟩ = some (.int .u64 a0_5) := (blk_cell BK103.out 5).trans rfl
                                    have hcz52_6 : wr.cell? ⟨gb103, 6, none⟩ = some (.int .u64 a0_6) := (blk_cell BK103.out 6).trans rfl
                                    have hcz52_7 : wr.cell? ⟨gb103, 7, none⟩ = some (.int .u64 a0_7) := (blk_cell BK103.out 7).trans rfl
                                    have hcz52_8 : wr.cell? ⟨gb103, 8, none⟩ = some (.int .u64 a0_8) := (blk_cell BK103.out 8).trans rfl
                                    have hcz52_9 : wr.cell? ⟨gb103, 9, none⟩ = some (.slice A0_9 l0_9.length c0_9) := (blk_cell BK103.out 9).trans rfl
                                    have hcz52_10 : wr.cell? ⟨gb103, 10, none⟩ = some (.int .i64 a0_10) := (blk_cell BK103.out 10).trans rfl
                                    have hcz52_11 : wr.cell? ⟨gb103, 11, none⟩ = some (.int .u64 a0_11) := (blk_cell BK103.out 11).trans rfl
                                    have hcz52_12 : wr.cell? ⟨gb103, 12, none⟩ = some (.int .u64 a0_12) := (blk_cell BK103.out 12).trans rfl
                                    have hcz52_13 : wr.cell? ⟨gb103, 13, none⟩ = some (.int .u64 a0_13) := (blk_cell BK103.out 13).trans rfl
                                    have hcz52_14 : wr.cell? ⟨gb103, 14, none⟩ = some (.int .u64 a0_14) := (blk_cell BK103.out 14).trans rfl
                                    have hfz52_0 := blk_frozen BK103.out 0
                                    have hfz52_1 := blk_frozen BK103.out 1
                                    have hfz52_2 := blk_frozen BK103.out 2
                                    have hfz52_3 := blk_frozen BK103.out 3
                                    have hfz52_4 := blk_frozen BK103.out 4
                                    have hfz52_5 := blk_frozen BK103.out 5
                                    have hfz52_6 := blk_frozen BK103.out 6
                                    have hfz52_7 := blk_frozen BK103.out 7
                                    have hfz52_8 := blk_frozen BK103.out 8
                                    have hfz52_9 := blk_frozen BK103.out 9
                                    have hfz52_10 := blk_frozen BK103.out 10
                                    have hfz52_11 := blk_frozen BK103.out 11
                                    have hfz52_12 := blk_frozen BK103.out 12
                                    have hfz52_13 := blk_frozen BK103.out 13
                                    have hfz52_14 := blk_frozen BK103.out 14
                                    have p109 : 0 ≤ (x3_5 : Int) := of_decide_eq_true (by first | (with_reducible assumption) | assumption)
                                    have q109 : x3_5 < (l0_9.length : Int) := of_decide_eq_true (by first | (with_reducible assumption) | assumption)
                                    obtain ⟨ad109, e109, hx109_0⟩ := Kd.at_int HR0_9.out x3_5 p109 q109
                                    cases e109
                                    replace hx109_0 := (HB.out.cell (World.block_lt_of_cell? w _ hx109_0)).trans hx109_0
                                    replace p109 := eq_true p109
                                    replace q109 := eq_true q109
                                    go_wp2_with (first | (go_at_call 37; (with_reducible refine (spec_l1In.calls (rd l0_9 x3_5) 1 a0_1 false _ A42.out).mono ?_); rintro e w' ⟨rfl, ⟨nd, rfl⟩⟩; (try first | exact ⟨rfl, _, World.drewN_drewN _ _ _⟩ | exact ⟨rfl, _, Eq.trans (World.drewN_drewN _ _ _) (congrArg (World.drewN _) (Nat.add_assoc _ _ _))⟩)))
                                    repeat (go_quiet (first | (go_at_call 37; (with_reducible refine (spec_l1In.calls (rd l0_9 x3_5) 1 a0_1 false _ A42.out).mono ?_); rintro e w' ⟨rfl, ⟨nd, rfl⟩⟩; (try first | exact ⟨rfl, _, World.drewN_drewN _ _ _⟩ | exact ⟨rfl, _, Eq.trans (World.drewN_drewN _ _ _) (congrArg (World.drewN _) (Nat.add_assoc _ _ _))⟩))); try go_wp2_with (first | (go_at_call 37; (with_reducible refine (spec_l1In.calls (rd l0_9 x3_5) 1 a0_1 false _ A42.out).mono ?_); rintro e w' ⟨rfl, ⟨nd, rfl⟩⟩; (try first | exact ⟨rfl, _, World.drewN_drewN _ _ _⟩ | exact ⟨rfl, _, Eq.trans (World.drewN_drewN _ _ _) (congrArg (World.drewN _) (Nat.add_assoc _ _ _))⟩))))
                                    go_ret
                                    exact ⟨by first | rfl | (simp [errW_none, errW_some] <;> rfl) | (simp [*, errW_none, errW_some] <;> rfl), by repeat (first | (with_reducible first | exact HB.out | apply below_alloc | apply pw_below_drewN | apply below_drew1 | refine below_set ?_ GE103.out) | exact HB.out)⟩
                                · rw [if_neg c41] at H
                                  exact absurd H (by simp)
                              · rw [if_neg c40] at H
                                have c40b0 : decide (x3_5 < (l0_9.length : Int)) = false := decide_eq_false c40
                                clear c40
                                obtain rfl := Option.some.inj H
                                have hcz53_0 : wr.cell? ⟨gb103, 0, none⟩ = some (.int .i64 a0_0) := (blk_cell BK103.out 0).trans rfl
                                have hcz53_1 : wr.cell? ⟨gb103, 1, none⟩ = some (.int .i64 a0_1) := (blk_cell BK103.out 1).trans rfl
                                have hcz53_2 : wr.cell? ⟨gb103, 2, none⟩ = some (.int .i64 a0_2) := (blk_cell BK103.out 2).trans rfl
                                have hcz53_3 : wr.cell? ⟨gb103, 3, none⟩ = some (.int .i64 a0_3) := (blk_cell BK103.out 3).trans rfl
                                have hcz53_4 : wr.cell? ⟨gb103, 4, none⟩ = some (.int .i64 a0_4) := (blk_cell BK103.out 4).trans rfl
                                have hcz53_5 : wr.cell? ⟨gb103, 5, none⟩ = some (.int .u64 a0_5) := (blk_cell BK103.out 5).trans rfl
                                have hcz53_6 : wr.cell? ⟨gb103, 6, none⟩ = some (.int .u64 a0_6) := (blk_cell BK103.out 6).trans rfl
                                have hcz53_7 : wr.cell? ⟨gb103, 7, none⟩ = some (.int .u64 a0_7) := (blk_cell BK103.out 7).trans rfl
                                have hcz53_8 : wr.cell? ⟨gb103, 8, none⟩ = some (.int .u64 a0_8) := (blk_cell BK103.out 8).trans rfl
                                have hcz53_9 : wr.cell? ⟨gb103, 9, none⟩ = some (.slice A0_9 l0_9.length c0_9) := (blk_cell BK103.out 9).trans rfl
                                have hcz53_10 : wr.cell? ⟨gb103, 10, none⟩ = some (.int .i64 a0_10) := (blk_cell BK103.out 10).trans rfl
                                have hcz53_11 : wr.cell? ⟨gb103, 11, none⟩ = some (.int .u64 a0_11) := (blk_cell BK103.out 11).trans rfl
                                have hcz53_12 : wr.cell? ⟨gb103, 12, none⟩ = some (.int .u64 a0_12) := (blk_cell BK103.out 12).trans rfl
                                have hcz53_13 : wr.cell? ⟨gb103, 13, none⟩ = some (.int .u64 a0_13) := (blk_cell BK103.out 13).trans rfl
                                have hcz53_14 : wr.cell? ⟨gb103, 14, none⟩ = some (.int .u64 a0_14) := (blk_cell BK103.out 14).trans rfl
                                have hfz53_0 := blk_frozen BK103.out 0
                                have hfz53_1 := blk_frozen BK103.out 1
                                have hfz53_2 := blk_frozen BK103.out 2
                                have hfz53_3 := blk_frozen BK103.out 3
                                have hfz53_4 := blk_frozen BK103.out 4
                                have hfz53_5 := blk_frozen BK103.out 5
                                have hfz53_6 := blk_frozen BK103.out 6
                                have hfz53_7 := blk_frozen BK103.out 7
                                have hfz53_8 := blk_frozen BK103.out 8
                                have hfz53_9 := blk_frozen BK103.out 9
                                have hfz53_10 := blk_frozen BK103.out 10
                                have hfz53_11 := blk_frozen BK103.out 11
                                have hfz53_12 := blk_frozen BK103.out 12
                                have hfz53_13 := blk_frozen BK103.out 13
                                have hfz53_14 := blk_frozen BK103.out 14
                                go_wp2
                                repeat (go_quiet (fail); try go_wp2)
                                go_ret
                                exact ⟨by first | rfl | (simp [errW_none, errW_some] <;> rfl) | (simp [*, errW_none, errW_some] <;> rfl), by repeat (first | (with_reducible first | exact HB.out | apply below_alloc | apply pw_below_drewN | apply below_drew1 | refine below_set ?_ GE103.out) | exact HB.out)⟩

end Go.Proofs.Ytpdcdajccfccbaa.Q
