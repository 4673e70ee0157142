/- The walk of functions of the given program: what each computes, as a Lean function, and that the code comes to it. Written by a program of this session's. No condition but each theorem's own. -/
import Derived.Test.YtcgfgodpiobcfaaRD
import Derived.Test.YtcgfgodpiobcfaaRx12
namespace Go.Proofs.Ytcgfgodpiobcfaa.R
open Go.RowKit Go.Proofs.YtcgfgodpiobcfaaW.PrintWords Go.Proofs.YtcgfgodpiobcfaaW.PrintLast Go.Proofs.YtcgfgodpiobcfaaW.PrintMore
attribute [local go_sem] max2_int min2_int max_two min_two max_three min_three max_four min_four   -- for this text's walks alone
set_option linter.unusedVariables false
set_option linter.unusedSimpArgs false

/-! ### impl_RecordCut: function 29 -/
def impl_RecordCut.T1 : Bool × List (List Nat × List Nat) := (true, [([], []), ([], []), ([], []), ([], []), ([3], [3]), ([2, 4], [2, 4]), ([5], [5]), ([1, 6], [1, 6]), ([0, 7], [0, 7]), ([8, 8, 0, 1, 2, 3, 4, 5, 6, 7, 8], [8])])
def impl_RecordCut.B1 : List Nat := [0, 0, 0, 0, 8, 28, 60, 126, 255, 511]
theorem impl_RecordCut.tab1 : rtab .any (opsOf Try.f29 1) = impl_RecordCut.T1 := by kernel_rfl
theorem impl_RecordCut.bits1 : waitsOk impl_RecordCut.T1.2 impl_RecordCut.B1 = true := by kernel_rfl
set_option maxHeartbeats 8000000 in
set_option maxRecDepth 100000 in
theorem impl_RecordCut.calls (a0_0 : Int) (a0_1 : Int) (a0_2 : Int) (a0_3 : Int) (a0_4 : Int) (a0_5 : Int) (a0_6 : Int) (a0_7 : Int) (a0_8 : Int) (a0_9 : Int) (a0_10 : Int) (a0_11 : Int) (a0_12 : Int) (a0_13 : Int) (A1 : Option Addr) (c1 : Nat) (l1 : List (S92)) (a2 : Int) (r1 : Int) (r2 : Int) (r3 : Int) (r4 : Int) (r5 : Int) (r6 : Int) (r7 : Int) (r8 : Int) (r9 : Int) (r10 : Int) (r11 : Int) (r12 : Int) (r13 : Int) (r14 : Int) (w : World) (hr1 : Kd.C k92 w A1 l1.length l1) (hc1 : l1.length ≤ c1) (h : impl_RecordCut.f a0_0 a0_1 a0_2 a0_3 a0_4 a0_5 a0_6 a0_7 a0_8 a0_9 a0_10 a0_11 a0_12 a0_13 l1 a2 = some (r1, r2, r3, r4, r5, r6, r7, r8, r9, r10, r11, r12, r13, r14)) :
    Calls Try.prog 29 #[.agg #[.int .u64 a0_0, .int .u64 a0_1, .int .u64 a0_2, .int .u64 a0_3, .int .u64 a0_4, .int .u64 a0_5, .int .u64 a0_6, .int .u64 a0_7, .int .u64 a0_8, .int .u64 a0_9, .int .u64 a0_10, .int .u64 a0_11, .int .u64 a0_12, .int .u64 a0_13], .slice A1 l1.length c1, .int .i64 a2] w fun e w' => e = .returned (.agg #[.int .u64 r1, .int .u64 r2, .int .u64 r3, .int .u64 r4, .int .u64 r5, .int .u64 r6, .int .u64 r7, .int .u64 r8, .int .u64 r9, .int .u64 r10, .int .u64 r11, .int .u64 r12, .int .u64 r13, .int .u64 r14]) ∧ Below w.heap.size w w' := by
  have hu38 := Try.underlying38
  have HR1 := Aside0.mk hr1
  have HC1 := Aside0.mk hc1
  clear hr1 hc1
  have HB := Aside0.mk (Below.refl w.heap.size w)
  have H : (if 0 ≤ (mx 0 (mn a2 (l1.length : Int))) then (if (mx 0 (mn a2 (l1.length : Int))) ≤ (l1.length : Int) then ((impl_DiskWrite.f a0_0 a0_1 a0_2 a0_3 a0_4 a0_5 a0_6 a0_7 a0_8 a0_9 a0_10 a0_11 a0_12 a0_13 (l1.take ((mx 0 (mn a2 (l1.length : Int))) : Int).toNat)).bind fun bt341 => (some (bt341.1, bt341.2.1, bt341.2.2.1, bt341.2.2.2.1, bt341.2.2.2.2.1, bt341.2.2.2.2.2.1, bt341.2.2.2.2.2.2.1, bt341.2.2.2.2.2.2.2.1, bt341.2.2.2.2.2.2.2.2.1, bt341.2.2.2.2.2.2.2.2.2.1, bt341.2.2.2.2.2.2.2.2.2.2.1, bt341.2.2.2.2.2.2.2.2.2.2.2.1, bt341.2.2.2.2.2.2.2.2.2.2.2.2.1, bt341.2.2.2.2.2.2.2.2.2.2.2.2.2))) else (none)) else (none)) = some (r1, r2, r3, r4, r5, r6, r7, r8, r9, r10, r11, r12, r13, r14) := h
  clear h
  obtain ⟨ji4, hji4⟩ : ∃ j_ : Int, (mn a2 (l1.length : Int)) = j_ := ⟨_, rfl⟩
  replace H : (if 0 ≤ (mx 0 (ji4)) then (if (mx 0 (ji4)) ≤ (l1.length : Int) then ((impl_DiskWrite.f a0_0 a0_1 a0_2 a0_3 a0_4 a0_5 a0_6 a0_7 a0_8 a0_9 a0_10 a0_11 a0_12 a0_13 (l1.take ((mx 0 (ji4)) : Int).toNat)).bind fun bt341 => (some (bt341.1, bt341.2.1, bt341.2.2.1, bt341.2.2.2.1, bt341.2.2.2.2.1, bt341.2.2.2.2.2.1, bt341.2.2.2.2.2.2.1, bt341.2.2.2.2.2.2.2.1, bt341.2.2.2.2.2.2.2.2.1, bt341.2.2.2.2.2.2.2.2.2.1, bt341.2.2.2.2.2.2.2.2.2.2.1, bt341.2.2.2.2.2.2.2.2.2.2.2.1, bt341.2.2.2.2.2.2.2.2.2.2.2.2.1, bt341.2.2.2.2.2.2.2.2.2.2.2.2.2))) else (none)) else (none)) = some (r1, r2, r3, r4, r5, r6, r7, r8, r9, r10, r11, r12, r13, r14) := by first | (rw [hji4] at H; exact H) | (simp only [hji4] at H ⊢; exact H)
  have hji4_ : (if (l1.length : Int) < a2 then (l1.length : Int) else a2) = ji4 := hji4
  obtain ⟨ji5, hji5⟩ : ∃ j_ : Int, (mx 0 (ji4)) = j_ := ⟨_, rfl⟩
  replace H : (if 0 ≤ (ji5) then (if (ji5) ≤ (l1.length : Int) then ((impl_DiskWrite.f a0_0 a0_1 a0_2 a0_3 a0_4 a0_5 a0_6 a0_7 a0_8 a0_9 a0_10 a0_11 a0_12 a0_13 (l1.take ((ji5) : Int).toNat)).bind fun bt341 => (some (bt341.1, bt341.2.1, bt341.2.2.1, bt341.2.2.2.1, bt341.2.2.2.2.1, bt341.2.2.2.2.2.1, bt341.2.2.2.2.2.2.1, bt341.2.2.2.2.2.2.2.1, bt341.2.2.2.2.2.2.2.2.1, bt341.2.2.2.2.2.2.2.2.2.1, bt341.2.2.2.2.2.2.2.2.2.2.1, bt341.2.2.2.2.2.2.2.2.2.2.2.1, bt341.2.2.2.2.2.2.2.2.2.2.2.2.1, bt341.2.2.2.2.2.2.2.2.2.2.2.2.2))) else (none)) else (none)) = some (r1, r2, r3, r4, r5, r6, r7, r8, r9, r10, r11, r12, r13, r14) := by first | (rw [hji5] at H; exact H) | (simp only [hji5] at H ⊢; exact H)
  have hji5_ : (if 0 < (ji4) then (ji4) else 0) = ji5 := hji5
  by_cases c6 : 0 ≤ (ji5)
  · rw [if_pos c6] at H
    have c6b0 := eq_true c6
    have c6b1 : decide (0 ≤ (ji5)) = true := decide_eq_true c6
    clear c6
    by_cases c7 : (ji5) ≤ (l1.length : Int)
    · rw [if_pos c7] at H
      have c7b0 := eq_true c7
      have c7b1 : decide ((ji5) ≤ (l1.length : Int)) = true := decide_eq_true c7
      clear c7
      obtain ⟨y337, hy337⟩ : ∃ y_ : List (S92), y_ = (l1.take ((ji5) : Int).toNat) := ⟨_, rfl⟩
      replace H : ((impl_DiskWrite.f a0_0 a0_1 a0_2 a0_3 a0_4 a0_5 a0_6 a0_7 a0_8 a0_9 a0_10 a0_11 a0_12 a0_13 y337).bind fun bt341 => (some (bt341.1, bt341.2.1, bt341.2.2.1, bt341.2.2.2.1, bt341.2.2.2.2.1, bt341.2.2.2.2.2.1, bt341.2.2.2.2.2.2.1, bt341.2.2.2.2.2.2.2.1, bt341.2.2.2.2.2.2.2.2.1, bt341.2.2.2.2.2.2.2.2.2.1, bt341.2.2.2.2.2.2.2.2.2.2.1, bt341.2.2.2.2.2.2.2.2.2.2.2.1, bt341.2.2.2.2.2.2.2.2.2.2.2.2.1, bt341.2.2.2.2.2.2.2.2.2.2.2.2.2))) = some (r1, r2, r3, r4, r5, r6, r7, r8, r9, r10, r11, r12, r13, r14) := by first | (rw [hy337]; with_reducible exact H) | (have H2_ := (Option.bind_some _ _).symm.trans H; rw [hy337]; with_reducible exact H2_) | (have H2_ := (Option.bind_some _ _).symm.trans H; with_reducible exact H2_) | with_reducible exact H | (rw [hy337]; exact H) | exact H
      have Ny337 := Aside0.mk hy337
      clear hy337
      replace H := Option.bind_eq_some_iff.mp H
      obtain ⟨⟨t341, t342, t343, t344, t345, t346, t347, t348, t349, t350, t351, t352, t353, t354⟩, A80, H⟩ := H
      replace H : (some (t341, t342, t343, t344, t345, t346, t347, t348, t349, t350, t351, t352, t353, t354)) = some (r1, r2, r3, r4, r5, r6, r7, r8, r9, r10, r11, r12, r13, r14) := H
      have A8 := Aside0.mk A80
      clear A80
      simp only [Option.some.injEq, Prod.mk.injEq] at H
      obtain ⟨rfl, rfl, rfl, rfl, rfl, rfl, rfl, rfl, rfl, rfl, rfl, rfl, rfl, rfl⟩ := H
      go_enter Try.func29, Try.ntmps29
      try go_wp2_with (first | ((with_reducible refine gate_dst (N := 3) rfl ?_); refine box_event ?hg (N := 3) ?hd (cs := #[.int .u64 a0_0, .int .u64 a0_1, .int .u64 a0_2, .int .u64 a0_3, .int .u64 a0_4, .int .u64 a0_5, .int .u64 a0_6, .int .u64 a0_7, .int .u64 a0_8, .int .u64 a0_9, .int .u64 a0_10, .int .u64 a0_11, .int .u64 a0_12, .int .u64 a0_13]) (t := 38) ?hr ?_; (case hd => rfl); (case hg => rfl); (case hr => first | (go_simp; done) | (go_simp; rfl)); intro gb335 hg w9 hbox hb; have n0_ := Aside0.mk (below_step (by repeat (first | (with_reducible first | exact HB.out | apply below_alloc | apply pw_below_drewN | apply below_drew1) | exact HB.out)) hb); have n1_ := Aside0.mk (hbox); have n2_ := Aside0.mk ((by rw [hg]; exact (below_size (by repeat (first | (with_reducible first | exact HB.out | apply below_alloc | apply pw_below_drewN | apply below_drew1) | exact HB.out))) : w.heap.size ≤ gb335)); have n3_ := Aside0.mk ((by rw [hg]; exact (below_size (by repeat (first | (with_reducible first | exact HB.out | apply below_alloc | apply pw_below_drewN | apply below_drew1) | exact HB.out))) : w.heap.size ≤ gb335)); clear HB; have HB := n0_; have BK335 := n1_; have GW335 := n2_; have GE335 := n3_; clear n0_ n1_ n2_ n3_; clear hb hbox hg) | ((with_reducible refine gate_dst (N := 6) rfl ?_); refine box_event ?hg (N := 6) ?hd (cs := #[.int .u64 0, .int .u64 0, .int .u64 0, .int .u64 0, .int .u64 0, .int .u64 0, .int .u64 0, .int .u64 0, .int .u64 0, .int .u64 0, .int .u64 0, .int .u64 0, .int .u64 0, .int .u64 0]) (t := 38) ?hr ?_; (case hd => rfl); (case hg => rfl); (case hr => first | (go_simp; done) | (go_simp; rfl)); intro gb336 hg w10 hbox hb; have n0_ := Aside0.mk (blk_below (g := gb335) (o := .cells #[.int .u64 a0_0, .int .u64 a0_1, .int .u64 a0_2, .int .u64 a0_3, .int .u64 a0_4, .int .u64 a0_5, .int .u64 a0_6, .int .u64 a0_7, .int .u64 a0_8, .int .u64 a0_9, .int .u64 a0_10, .int .u64 a0_11, .int .u64 a0_12, .int .u64 a0_13] 38 (0, 0)) (by (with_reducible repeat (first | refine blk_drewN ?_ _ | refine blk_drew ?_ | refine blk_alloc ?_ _)); exact BK335.out) hb); have n1_ := Aside0.mk (below_step (by repeat (first | (with_reducible first | exact HB.out | apply below_alloc | apply pw_below_drewN | apply below_drew1 | refine below_set ?_ GE335.out) | exact HB.out)) hb); have n2_ := Aside0.mk (hbox); have n3_ := Aside0.mk ((by rw [hg]; exact (below_size (by repeat (first | (with_reducible first | exact HB.out | apply below_alloc | apply pw_below_drewN | apply below_drew1 | refine below_set ?_ GE335.out) | exact HB.out))) : w.heap.size ≤ gb336)); have n4_ := Aside0.mk ((by rw [hg]; exact (below_size (by repeat (first | (with_reducible first | exact HB.out | apply below_alloc | apply pw_below_drewN | apply below_drew1 | refine below_set ?_ GE335.out) | exact HB.out))) : w.heap.size ≤ gb336)); have n5_ := Aside0.mk ((by rw [hg]; exact Nat.ne_of_lt (blk_lt (g := gb335) (o := .cells #[.int .u64 a0_0, .int .u64 a0_1, .int .u64 a0_2, .int .u64 a0_3, .int .u64 a0_4, .int .u64 a0_5, .int .u64 a0_6, .int .u64 a0_7, .int .u64 a0_8, .int .u64 a0_9, .int .u64 a0_10, .int .u64 a0_11, .int .u64 a0_12, .int .u64 a0_13] 38 (0, 0)) (by (with_reducible repeat (first | refine blk_drewN ?_ _ | refine blk_drew ?_ | refine blk_alloc ?_ _)); exact BK335.out)) : gb335 ≠ gb336)); have n6_ := Aside0.mk ((by rw [hg]; exact Nat.ne_of_gt (blk_lt (g := gb335) (o := .cells #[.int .u64 a0_0, .int .u64 a0_1, .int .u64 a0_2, .int .u64 a0_3, .int .u64 a0_4, .int .u64 a0_5, .int .u64 a0_6, .int .u64 a0_7, .int .u64 a0_8, .int .u64 a0_9, .int .u64 a0_10, .int .u64 a0_11, .int .u64 a0_12, .int .u64 a0_13] 38 (0, 0)) (by (with_reducible repeat (first | refine blk_drewN ?_ _ | refine blk_drew ?_ | refine blk_alloc ?_ _)); exact BK335.out)) : gb336 ≠ gb335)); clear BK335; clear HB; have BK335 := n0_; have HB := n1_; have BK336 := n2_; have GW336 := n3_; have GE336 := n4_; have NB335_336 := n5_; have NB336_335 := n6_; clear n0_ n1_ n2_ n3_ n4_ n5_ n6_; clear hb hbox hg))
      have n0_ := Aside0.mk (blk_drew BK335.out)
      have n1_ := Aside0.mk (blk_drew BK336.out)
      have n2_ := Aside0.mk (below_drew1 HB.out)
      clear BK335
      clear BK336
      clear HB
      have BK335 := n0_
      have BK336 := n1_
      have HB := n2_
      clear n0_ n1_ n2_
      have q12 : ((ji5) : Int) ≤ ((l1.length : Int) : Int) := of_decide_eq_true (by first | (with_reducible assumption) | assumption)
      obtain ⟨i012, hi012, _, hsz12, _⟩ := info_parts info92
      have hroom12 : l1.length ≤ c1 := HC1.out
      have hC12 : Kd.C k92 _ A1 l1.length l1 := HR1.out
      have hcut12 := cut_to (P := Try.prog) 41 92 .i64 Try.underlying41 hi012 A1 l1.length c1 (ji5) (of_decide_eq_true (by first | (with_reducible assumption) | assumption)) q12 hroom12
      have hr12 := Kd.C_take (m := ((ji5) : Int).toNat) hC12 (by omega)
      have hy12 : y337.length = ((ji5) : Int).toNat := (by rw [Ny337.out, List.length_take]; omega)
      rw [← Ny337.out] at hr12
      rw [← hy12] at hcut12
      have HR340 := Aside0.mk hr12
      have HC340 := Aside0.mk (show y337.length ≤ c1 from by omega)
      clear hr12 hC12 hroom12 hi012 hsz12
      have KY12 := Aside0.mk hy12
      clear hy12
      replace q12 := eq_true q12
      refine start_ (n := 10) (S := fun w' => w'.cell? ⟨gb335, 0, none⟩ = some (.int .u64 a0_0) ∧ w'.cell? ⟨gb335, 1, none⟩ = some (.int .u64 a0_1) ∧ w'.cell? ⟨gb335, 2, none⟩ = some (.int .u64 a0_2) ∧ w'.cell? ⟨gb335, 3, none⟩ = some (.int .u64 a0_3) ∧ w'.cell? ⟨gb335, 4, none⟩ = some (.int .u64 a0_4) ∧ w'.cell? ⟨gb335, 5, none⟩ = some (.int .u64 a0_5) ∧ w'.cell? ⟨gb335, 6, none⟩ = some (.int .u64 a0_6) ∧ w'.cell? ⟨gb335, 7, none⟩ = some (.int .u64 a0_7) ∧ w'.cell? ⟨gb335, 8, none⟩ = some (.int .u64 a0_8) ∧ w'.cell? ⟨gb335, 9, none⟩ = some (.int .u64 a0_9) ∧ w'.cell? ⟨gb335, 10, none⟩ = some (.int .u64 a0_10) ∧ w'.cell? ⟨gb335, 11, none⟩ = some (.int .u64 a0_11) ∧ w'.cell? ⟨gb335, 12, none⟩ = some (.int .u64 a0_12) ∧ w'.cell? ⟨gb335, 13, none⟩ = some (.int .u64 a0_13)) (ds := []) #[false, false, false, false, false, false, false, false, false, false] (by kernel_rfl) rfl rfl ⟨(blk_cell BK335.out 0).trans rfl, (blk_cell BK335.out 1).trans rfl, (blk_cell BK335.out 2).trans rfl, (blk_cell BK335.out 3).trans rfl, (blk_cell BK335.out 4).trans rfl, (blk_cell BK335.out 5).trans rfl, (blk_cell BK335.out 6).trans rfl, (blk_cell BK335.out 7).trans rfl, (blk_cell BK335.out 8).trans rfl, (blk_cell BK335.out 9).trans rfl, (blk_cell BK335.out 10).trans rfl, (blk_cell BK335.out 11).trans rfl, (blk_cell BK335.out 12).trans rfl, (blk_cell BK335.out 13).trans rfl⟩ (fun hHeld => ?_); refine with_tabW impl_RecordCut.tab1 impl_RecordCut.bits1 (fun HT_ HW_ => ?_)
      generalize w10.drew = w11 at BK335 BK336 HB HR340 hHeld ⊢
      refine pure_ (i := 1) (N := some 8) (v := ?_) (a' := ?_) #[false, true, false, false, false, false, false, false, false, false] rfl rfl (any_of HT_.out (by kernel_rfl)) (fun _ _ _ h => h) (Or.inl ⟨by rfl, ?_⟩) ?_ ?_
      rotate_left
      · intro w'
        go_simp
        with_reducible rfl
      rotate_left
      · simp only [Act.put, List.setIfInBounds_toArray, List.set_cons_zero, List.set_cons_succ, i64_w, i32_w]
        rfl
      refine pure_ (i := 2) (N := some 9) (v := ?_) (a' := ?_) #[false, true, true, false, false, false, false, false, false, false] rfl rfl (any_of HT_.out (by kernel_rfl)) (fun _ _ _ h => h) (Or.inl ⟨by rfl, ?_⟩) ?_ ?_
      rotate_left
      · intro w'
        go_simp
        with_reducible rfl
      rotate_left
      · simp only [Act.put, List.setIfInBounds_toArray, List.set_cons_zero, List.set_cons_succ, i64_w, i32_w]
        rfl
      refine pure_ (i := 3) (N := some 10) (v := ?_) (a' := ?_) #[false, true, true, true, false, false, false, false, false, false] rfl rfl (any_of HT_.out (by kernel_rfl)) (fun _ _ _ h => h) (Or.inl ⟨by rfl, ?_⟩) ?_ ?_
      rotate_left
      · intro w'
        go_simp
        with_reducible rfl
      rotate_left
      · simp only [Act.put, List.setIfInBounds_toArray, List.set_cons_zero, List.set_cons_succ, i64_w, i32_w]
        rfl
      refine pure_ (i := 4) (N := some 11) (v := ?_) (a' := ?_) #[false, true, true, true, true, false, false, false, false, false] rfl rfl (any_of HT_.out (by kernel_rfl)) (fun _ _ _ h => h) (Or.inl ⟨by rfl, ?_⟩) ?_ ?_
      rotate_left
      · intro w'
        go_simp
        with_reducible rfl
      rotate_left
      · simp only [Act.put, List.setIfInBounds_toArray, List.set_cons_zero, List.set_cons_succ, i64_w, i32_w]
        rfl
      refine pure_ (i := 5) (N := some 12) (v := ?_) (a' := ?_) #[false, true, true, true, true, true, false, false, false, false] rfl rfl (any_of HT_.out (by kernel_rfl)) (fun _ _ _ h => h) (Or.inl ⟨by rfl, ?_⟩) ?_ ?_
      rotate_left
      · intro w'
        go_simp
        with_reducible rfl
      rotate_left
      · simp only [Act.put, List.setIfInBounds_toArray, List.set_cons_zero, List.set_cons_succ, i64_w, i32_w]
        rfl
      refine pure_ (i := 6) (N := some 13) (v := ?_) (a' := ?_) #[false, true, true, true, true, true, true, false, false, false] rfl rfl (any_of HT_.out (by kernel_rfl)) (fun _ _ _ h => h) (Or.inl ⟨by rfl, ?_⟩) ?_ ?_
      rotate_left
      · intro w'
        go_simp
        with_reducible rfl
      rotate_left
      · simp only [Act.put, List.setIfInBounds_toArray, List.set_cons_zero, List.set_cons_succ, i64_w, i32_w]
        rfl
      refine pure_ (i := 7) (N := some 14) (v := ?_) (a' := ?_) #[false, true, true, true, true, true, true, true, false, false] rfl rfl (any_of HT_.out (by kernel_rfl)) (fun _ _ _ h => h) (Or.inl ⟨by rfl, ?_⟩) ?_ ?_
      rotate_left
      · intro w'
        go_simp
        with_reducible rfl
      rotate_left
      · simp only [Act.put, List.setIfInBounds_toArray, List.set_cons_zero, List.set_cons_succ, i64_w, i32_w]
        rfl
      refine take_ (i := 0) (N := some 7) (v := ?_) (a' := ?_) #[true, true, true, true, true, true, true, true, false, false] rfl rfl (take_ofW HT_.out HW_.out (by kernel_rfl)) (fun _ _ _ h => h) (Or.inl ⟨by rfl, ?_⟩) hHeld ?_ ?_
      rotate_left
      · rintro w' ⟨s0, s1, s2, s3, s4, s5, s6, s7, s8, s9, s10, s11, s12, s13⟩
        go_simp
        with_reducible rfl
      rotate_left
      · simp only [Act.put, List.setIfInBounds_toArray, List.set_cons_zero, List.set_cons_succ, i64_w, i32_w]
        rfl
      refine one_ (i := 8) (N := some 15) #[true, true, true, true, true, true, true, true, true, false] rfl rfl (one_of HT_.out (by kernel_rfl)) (by decide) (fun K hK => ?_)
      refine goes_ Try.func23 (by kernel_rfl) rfl #[.agg #[.int .u64 a0_0, .int .u64 a0_1, .int .u64 a0_2, .int .u64 a0_3, .int .u64 a0_4, .int .u64 a0_5, .int .u64 a0_6, .int .u64 a0_7, .int .u64 a0_8, .int .u64 a0_9, .int .u64 a0_10, .int .u64 a0_11, .int .u64 a0_12, .int .u64 a0_13], .slice A1 y337.length c1] (by rfl) rfl rfl (by (try simp only [List.map_toArray, List.map_cons, List.map_nil]); first | done | rfl | (simp only [List.length_drop, List.length_take]; rfl)) ?_
      with_reducible refine (impl_DiskWrite.calls a0_0 a0_1 a0_2 a0_3 a0_4 a0_5 a0_6 a0_7 a0_8 a0_9 a0_10 a0_11 a0_12 a0_13 _ _ y337 t341 t342 t343 t344 t345 t346 t347 t348 t349 t350 t351 t352 t353 t354 _ ?side1 ?side2 A8.out).mono ?_
      (case side1 => repeat (first | exact (Kd.C_below HR340.out HB.out) | (with_reducible refine Kd.C_alloc ?_ _) | (with_reducible refine Kd.C_drewN ?_ _) | (with_reducible refine Kd.C_drew ?_)))
      (case side2 => exact HC340.out)
      rintro e w13 ⟨rfl, hb⟩
      refine ⟨_, rfl, ?_⟩
      have n0_ := Aside0.mk (blk_below (g := gb335) (o := .cells #[.int .u64 a0_0, .int .u64 a0_1, .int .u64 a0_2, .int .u64 a0_3, .int .u64 a0_4, .int .u64 a0_5, .int .u64 a0_6, .int .u64 a0_7, .int .u64 a0_8, .int .u64 a0_9, .int .u64 a0_10, .int .u64 a0_11, .int .u64 a0_12, .int .u64 a0_13] 38 (0, 0)) (by (with_reducible repeat (first | refine blk_drewN ?_ _ | refine blk_drew ?_ | refine blk_alloc ?_ _)); exact BK335.out) hb)
      have n1_ := Aside0.mk (blk_below (g := gb336) (o := .cells #[.int .u64 0, .int .u64 0, .int .u64 0, .int .u64 0, .int .u64 0, .int .u64 0, .int .u64 0, .int .u64 0, .int .u64 0, .int .u64 0, .int .u64 0, .int .u64 0, .int .u64 0, .int .u64 0] 38 (0, 0)) (by (with_reducible repeat (first | refine blk_drewN ?_ _ | refine blk_drew ?_ | refine blk_alloc ?_ _)); exact BK336.out) hb)
      have n2_ := Aside0.mk (below_step (by repeat (first | (with_reducible first | exact HB.out | apply below_alloc | apply pw_below_drewN | apply below_drew1 | refine below_set ?_ GE335.out | refine below_set ?_ GE336.out) | exact HB.out)) hb)
      clear BK335
      clear BK336
      clear HB
      have BK335 := n0_
      have BK336 := n1_
      have HB := n2_
      clear n0_ n1_ n2_
      (try clear hb)
      (try clear hb2)
      (try clear hk)
      (try clear hi)
      refine hK.out _ _ ⟨(blk_cell BK335.out 0).trans rfl, (blk_cell BK335.out 1).trans rfl, (blk_cell BK335.out 2).trans rfl, (blk_cell BK335.out 3).trans rfl, (blk_cell BK335.out 4).trans rfl, (blk_cell BK335.out 5).trans rfl, (blk_cell BK335.out 6).trans rfl, (blk_cell BK335.out 7).trans rfl, (blk_cell BK335.out 8).trans rfl, (blk_cell BK335.out 9).trans rfl, (blk_cell BK335.out 10).trans rfl, (blk_cell BK335.out 11).trans rfl, (blk_cell BK335.out 12).trans rfl, (blk_cell BK335.out 13).trans rfl⟩ (fun hHeld => ?_)
      clear hK K
      refine norm_ (a' := ?_) ?_ ?_
      rotate_left
      · show Act.put _ (some 15) _ = _
        simp only [Act.put, List.setIfInBounds_toArray, List.set_cons_zero, List.set_cons_succ, i64_w, i32_w]
        rfl
      refine one_ (i := 9) (N := none) #[true, true, true, true, true, true, true, true, true, true] rfl rfl (one_of HT_.out (by kernel_rfl)) (by decide) (fun K hK => ?_)
      have hs14 : w13.cell? ⟨gb336, 0, none⟩ = some (.int .u64 0) := (blk_cell BK336.out 0).trans rfl
      have hfs14 := blk_frozen BK336.out 0
      have hns14_0 := NB335_336.out
      have hms14_0 := NB336_335.out
      have hs15 : w13.cell? ⟨gb336, 1, none⟩ = some (.int .u64 0) := (blk_cell BK336.out 1).trans rfl
      have hfs15 := blk_frozen BK336.out 1
      have hns15_0 := NB335_336.out
      have hms15_0 := NB336_335.out
      have hs16 : w13.cell? ⟨gb336, 2, none⟩ = some (.int .u64 0) := (blk_cell BK336.out 2).trans rfl
      have hfs16 := blk_frozen BK336.out 2
      have hns16_0 := NB335_336.out
      have hms16_0 := NB336_335.out
      have hs17 : w13.cell? ⟨gb336, 3, none⟩ = some (.int .u64 0) := (blk_cell BK336.out 3).trans rfl
      have hfs17 := blk_frozen BK336.out 3
      have hns17_0 := NB335_336.out
      have hms17_0 := NB336_335.out
      have hs18 : w13.cell? ⟨gb336, 4, none⟩ = some (.int .u64 0) := (blk_cell BK336.out 4).trans rfl
      have hfs18 := blk_frozen BK336.out 4
      have hns18_0 := NB335_336.out
      have hms18_0 := NB336_335.out
      have hs19 : w13.cell? ⟨gb336, 5, none⟩ = some (.int .u64 0) := (blk_cell BK336.out 5).trans rfl
      have hfs19 := blk_frozen BK336.out 5
      have hns19_0 := NB335_336.out
      have hms19_0 := NB336_335.out
      have hs20 : w13.cell? ⟨gb336, 6, none⟩ = some (.int .u64 0) := (blk_cell BK336.out 6).trans rfl
      have hfs20 := blk_frozen BK336.out 6
      have hns20_0 := NB335_336.out
      have hms20_0 := NB336_335.out
      have hs21 : w13.cell? ⟨gb336, 7, none⟩ = some (.int .u64 0) := (blk_cell BK336.out 7).trans rfl
      have hfs21 := blk_frozen BK336.out 7
      have hns21_0 := NB335_336.out
      have hms21_0 := NB336_335.out
      have hs22 : w13.cell? ⟨gb336, 8, none⟩ = some (.int .u64 0) := (blk_cell BK336.out 8).trans rfl
      have hfs22 := blk_frozen BK336.out 8
      have hns22_0 := NB335_336.out
      have hms22_0 := NB336_335.out
      have hs23 : w13.cell? ⟨gb336, 9, none⟩ = some (.int .u64 0) := (blk_cell BK336.out 9).trans rfl
      have hfs23 := blk_frozen BK336.out 9
      have hns23_0 := NB335_336.out
      have hms23_0 := NB336_335.out
      have hs24 : w13.cell? ⟨gb336, 10, none⟩ = some (.int .u64 0) := (blk_cell BK336.out 10).trans rfl
      have hfs24 := blk_frozen BK336.out 10
      have hns24_0 := NB335_336.out
      have hms24_0 := NB336_335.out
      have hs25 : w13.cell? ⟨gb336, 11, none⟩ = some (.int .u64 0) := (blk_cell BK336.out 11).trans rfl
      have hfs25 := blk_frozen BK336.out 11
      have hns25_0 := NB335_336.out
      have hms25_0 := NB336_335.out
      have hs26 : w13.cell? ⟨gb336, 12, none⟩ = some (.int .u64 0) := (blk_cell BK336.out 12).trans rfl
      have hfs26 := blk_frozen BK336.out 12
      have hns26_0 := NB335_336.out
      have hms26_0 := NB336_335.out
      have hs27 : w13.cell? ⟨gb336, 13, none⟩ = some (.int .u64 0) := (blk_cell BK336.out 13).trans rfl
      have hfs27 := blk_frozen BK336.out 13
      have hns27_0 := NB335_336.out
      have hms27_0 := NB336_335.out
      refine skip_ (w1 := ?_) (by rfl) rfl ?_ ?_
      rotate_left
      · go_simp
        rfl
      refine hK.out _ _ ⟨((cell_far (p := ⟨gb336, _, none⟩) NB335_336.out _).trans (((cell_far (p := ⟨gb336, _, none⟩) NB335_336.out _).trans (((cell_far (p := ⟨gb336, _, none⟩) NB335_336.out _).trans (((cell_far (p := ⟨gb336, _, none⟩) NB335_336.out _).trans (((cell_far (p := ⟨gb336, _, none⟩) NB335_336.out _).trans (((cell_far (p := ⟨gb336, _, none⟩) NB335_336.out _).trans (((cell_far (p := ⟨gb336, _, none⟩) NB335_336.out _).trans (((cell_far (p := ⟨gb336, _, none⟩) NB335_336.out _).trans (((cell_far (p := ⟨gb336, _, none⟩) NB335_336.out _).trans (((cell_far (p := ⟨gb336, _, none⟩) NB335_336.out _).trans (((cell_far (p := ⟨gb336, _, none⟩) NB335_336.out _).trans (((cell_far (p := ⟨gb336, _, none⟩) NB335_336.out _).trans (((cell_far (p := ⟨gb336, _, none⟩) NB335_336.out _).trans (((cell_far (p := ⟨gb336, _, none⟩) NB335_336.out _).trans (hHeld.1)))))))))))))))))))))))))))), ((cell_far (p := ⟨gb336, _, none⟩) NB335_336.out _).trans (((cell_far (p := ⟨gb336, _, none⟩) NB335_336.out _).trans (((cell_far (p := ⟨gb336, _, none⟩) NB335_336.out _).trans (((cell_far (p := ⟨gb336, _, none⟩) NB335_336.out _).trans (((cell_far (p := ⟨gb336, _, none⟩) NB335_336.out _).trans (((cell_far (p := ⟨gb336, _, none⟩) NB335_336.out _).trans (((cell_far (p := ⟨gb336, _, none⟩) NB335_336.out _).trans (((cell_far (p := ⟨gb336, _, none⟩) NB335_336.out _).trans (((cell_far (p := ⟨gb336, _, none⟩) NB335_336.out _).trans (((cell_far (p := ⟨gb336, _, none⟩) NB335_336.out _).trans (((cell_far (p := ⟨gb336, _, none⟩) NB335_336.out _).trans (((cell_far (p := ⟨gb336, _, none⟩) NB335_336.out _).trans (((cell_far (p := ⟨gb336, _, none⟩) NB335_336.out _).trans (((cell_far (p := ⟨gb336, _, none⟩) NB335_336.out _).trans (hHeld.2.1)))))))))))))))))))))))))))), ((cell_far (p := ⟨gb336, _, none⟩) NB335_336.out _).trans (((cell_far (p := ⟨gb336, _, none⟩) NB335_336.out _).trans (((cell_far (p := ⟨gb336, _, none⟩) NB335_336.out _).trans (((cell_far (p := ⟨gb336, _, none⟩) NB335_336.out _).trans (((cell_far (p := ⟨gb336, _, none⟩) NB335_336.out _).trans (((cell_far (p := ⟨gb336, _, none⟩) NB335_336.out _).trans (((cell_far (p := ⟨gb336, _, none⟩) NB335_336.out _).trans (((cell_far (p := ⟨gb336, _, none⟩) NB335_336.out _).trans (((cell_far (p := ⟨gb336, _, none⟩) NB335_336.out _).trans (((cell_far (p := ⟨gb336, _, none⟩) NB335_336.out _).trans (((cell_far (p := ⟨gb336, _, none⟩) NB335_336.out _).trans (((cell_far (p := ⟨gb336, _, none⟩) NB335_336.out _).trans (((cell_far (p := ⟨gb336, _, none⟩) NB335_336.out _).trans (((cell_far (p := ⟨gb336, _, none⟩) NB335_336.out _).trans (hHeld.2.2.1)))))))))))))))))))))))))))), ((cell_far (p := ⟨gb336, _, none⟩) NB335_336.out _).trans (((cell_far (p := ⟨gb336, _, none⟩) NB335_336.out _).trans (((cell_far (p := ⟨gb336, _, none⟩) NB335_336.out _).trans (((cell_far (p := ⟨gb336, _, none⟩) NB335_336.out _).trans (((cell_far (p := ⟨gb336, _, none⟩) NB335_336.out _).trans (((cell_far (p := ⟨gb336, _, none⟩) NB335_336.out _).trans (((cell_far (p := ⟨gb336, _, none⟩) NB335_336.out _).trans (((cell_far (p := ⟨gb336, _, none⟩) NB335_336.out _).trans (((cell_far (p := ⟨gb336, _, none⟩) NB335_336.out _).trans (((cell_far (p := ⟨gb336, _, none⟩) NB335_336.out _).trans (((cell_far (p := ⟨gb336, _, none⟩) NB335_336.out _).trans (((cell_far (p := ⟨gb336, _, none⟩) NB335_336.out _).trans (((cell_far (p := ⟨gb336, _, none⟩) NB335_336.out _).trans (((cell_far (p := ⟨gb336, _, none⟩) NB335_336.out _).trans (hHeld.2.2.2.1)))))))))))))))))))))))))))), ((cell_far (p := ⟨gb336, _, none⟩) NB335_336.out _).trans (((cell_far (p := ⟨gb336, _, none⟩) NB335_336.out _).trans (((cell_far (p := ⟨gb336, _, none⟩) NB335_336.out _).trans (((cell_far (p := ⟨gb336, _, none⟩) NB335_336.out _).trans (((cell_far (p := ⟨gb336, _, none⟩) NB335_336.out _).trans (((cell_far (p := ⟨gb336, _, none⟩) NB335_336.out _).trans (((cell_far (p := ⟨gb336, _, none⟩) NB335_336.out _).trans (((cell_far (p := ⟨gb336, _, none⟩) NB335_336.out _).trans (((cell_far (p := ⟨gb336, _, none⟩) NB335_336.out _).trans (((cell_far (p := ⟨gb336, _, none⟩) NB335_336.out _).trans (((cell_far (p := ⟨gb336, _, none⟩) NB335_336.out _).trans (((cell_far (p := ⟨gb336, _, none⟩) NB335_336.out _).trans (((cell_far (p := ⟨gb336, _, none⟩) NB335_336.out _).trans (((cell_far (p := ⟨gb336, _, none⟩) NB335_336.out _).trans (hHeld.2.2.2.2.1)))))))))))))))))))))))))))), ((cell_far (p := ⟨gb336, _, none⟩) NB335_336.out _).trans (((cell_far (p := ⟨gb336, _, none⟩) NB335_336.out _).trans (((cell_far (p := ⟨gb336, _, none⟩) NB335_336.out _).trans (((cell_far (p := ⟨gb336, _, none⟩) NB335_336.out _).trans (((cell_far (p := ⟨gb336, _, none⟩) NB335_336.out _).trans (((cell_far (p := ⟨gb336, _, none⟩) NB335_336.out _).trans (((cell_far (p := ⟨gb336, _, none⟩) NB335_336.out _).trans (((cell_far (p := ⟨gb336, _, none⟩) NB335_336.out _).trans (((cell_far (p := ⟨gb336, _, none⟩) NB335_336.out _).trans (((cell_far (p := ⟨gb336, _, none⟩) NB335_336.out _).trans (((cell_far (p := ⟨gb336, _, none⟩) NB335_336.out _).trans (((cell_far (p := ⟨gb336, _, none⟩) NB335_336.out _).trans (((cell_far (p := ⟨gb336, _, none⟩) NB335_336.out _).trans (((cell_far (p := ⟨gb336, _, none⟩) NB335_336.out _).trans (hHeld.2.2.2.2.2.1)))))))))))))))))))))))))))), ((cell_far (p := ⟨gb336, _, none⟩) NB335_336.out _).trans (((cell_far (p := ⟨gb336, _, none⟩) NB335_336.out _).trans (((cell_far (p := ⟨gb336, _, none⟩) NB335_336.out _).trans (((cell_far (p := ⟨gb336, _, none⟩) NB335_336.out _).trans (((cell_far (p := ⟨gb336, _, none⟩) NB335_336.out _).trans (((cell_far (p := ⟨gb336, _, none⟩) NB335_336.out _).trans (((cell_far (p := ⟨gb336, _, none⟩) NB335_336.out _).trans (((cell_far (p := ⟨gb336, _, none⟩) NB335_336.out _).trans (((cell_far (p := ⟨gb336, _, none⟩) NB335_336.out _).trans (((cell_far (p := ⟨gb336, _, none⟩) NB335_336.out _).trans (((cell_far (p := ⟨gb336, _, none⟩) NB335_336.out _).trans (((cell_far (p := ⟨gb336, _, none⟩) NB335_336.out _).trans (((cell_far (p := ⟨gb336, _, none⟩) NB335_336.out _).trans (((cell_far (p := ⟨gb336, _, none⟩) NB335_336.out _).trans (hHeld.2.2.2.2.2.2.1)))))))))))))))))))))))))))), ((cell_far (p := ⟨gb336, _, none⟩) NB335_336.out _).trans (((cell_far (p := ⟨gb336, _, none⟩) NB335_336.out _).trans (((cell_far (p := ⟨gb336, _, none⟩) NB335_336.out _).trans (((cell_far (p := ⟨gb336, _, none⟩) NB335_336.out _).trans (((cell_far (p := ⟨gb336, _, none⟩) NB335_336.out _).trans (((cell_far (p := ⟨gb336, _, none⟩) NB335_336.out _).trans (((cell_far (p := ⟨gb336, _, none⟩) NB335_336.out _).trans (((cell_far (p := ⟨gb336, _, none⟩) NB335_336.out _).trans (((cell_far (p := ⟨gb336, _, none⟩) NB335_336.out _).trans (((cell_far (p := ⟨gb336, _, none⟩) NB335_336.out _).trans (((cell_far (p := ⟨gb336, _, none⟩) NB335_336.out _).trans (((cell_far (p := ⟨gb336, _, none⟩) NB335_336.out _).trans (((cell_far (p := ⟨gb336, _, none⟩) NB335_336.out _).trans (((cell_far (p := ⟨gb336, _, none⟩) NB335_336.out _).trans (hHeld.2.2.2.2.2.2.2.1)))))))))))))))))))))))))))), ((cell_far (p := ⟨gb336, _, none⟩) NB335_336.out _).trans (((cell_far (p := ⟨gb336, _, none⟩) NB335_336.out _).trans (((cell_far (p := ⟨gb336, _, none⟩) NB335_336.out _).trans (((cell_far (p := ⟨gb336, _, none⟩) NB335_336.out _).trans (((cell_far (p := ⟨gb336, _, none⟩) NB335_336.out _).trans (((cell_far (p := ⟨gb336, _, none⟩) NB335_336.out _).trans (((cell_far (p := ⟨gb336, _, none⟩) NB335_336.out _).trans (((cell_far (p := ⟨gb336, _, none⟩) NB335_336.out _).trans (((cell_far (p := ⟨gb336, _, none⟩) NB335_336.out _).trans (((cell_far (p := ⟨gb336, _, none⟩) NB335_336.out _).trans (((cell_far (p := ⟨gb336, _, none⟩) NB335_336.out _).trans (((cell_far (p := ⟨gb336, _, none⟩) NB335_336.out _).trans (((cell_far (p := ⟨gb336, _, none⟩) NB335_336.out _).trans (((cell_far (p := ⟨gb336, _, none⟩) NB335_336.out _).trans (hHeld.2.2.2.2.2.2.2.2.1)))))))))))))))))))))))))))), ((cell_far (p := ⟨gb336, _, none⟩) NB335_336.out _).trans (((cell_far (p := ⟨gb336, _, none⟩) NB335_336.out _).trans (((cell_far (p := ⟨gb336, _, none⟩) NB335_336.out _).trans (((cell_far (p := ⟨gb336, _, none⟩) NB335_336.out _).trans (((cell_far (p := ⟨gb336, _, none⟩) NB335_336.out _).trans (((cell_far (p := ⟨gb336, _, none⟩) NB335_336.out _).trans (((cell_far (p := ⟨gb336, _, none⟩) NB335_336.out _).trans (((cell_far (p := ⟨gb336, _, none⟩) NB335_336.out _).trans (((cell_far (p := ⟨gb336, _, none⟩) NB335_336.out _).trans (((cell_far (p := ⟨gb336, _, none⟩) NB335_336.out _).trans (((cell_far (p := ⟨gb336, _, none⟩) NB335_336.out _).trans (((cell_far (p := ⟨gb336, _, none⟩) NB335_336.out _).trans (((cell_far (p := ⟨gb336, _, none⟩) NB335_336.out _).trans (((cell_far (p := ⟨gb336, _, none⟩) NB335_336.out _).trans (hHeld.2.2.2.2.2.2.2.2.2.1)))))))))))))))))))))))))))), ((cell_far (p := ⟨gb336, _, none⟩) NB335_336.out _).trans (((cell_far (p := ⟨gb336, _, none⟩) NB335_336.out _).trans (((cell_far (p := ⟨gb336, _, none⟩) NB335_336.out _).trans (((cell_far (p := ⟨gb336, _, none⟩) NB335_336.out _).trans (((cell_far (p := ⟨gb336, _, none⟩) NB335_336.out _).trans (((cell_far (p := ⟨gb336, _, none⟩) NB335_336.out _).trans (((cell_far (p := ⟨gb336, _, none⟩) NB335_336.out _).trans (((cell_far (p := ⟨gb336, _, none⟩) NB335_336.out _).trans (((cell_far (p := ⟨gb336, _, none⟩) NB335_336.out _).trans (((cell_far (p := ⟨gb336, _, none⟩) NB335_336.out _).trans (((cell_far (p := ⟨gb336, _, none⟩) NB335_336.out _).trans (((cell_far (p := ⟨gb336, _, none⟩) NB335_336.out _).trans (((cell_far (p := ⟨gb336, _, none⟩) NB335_336.out _).trans (((cell_far (p := ⟨gb336, _, none⟩) NB335_336.out _).trans (hHeld.2.2.2.2.2.2.2.2.2.2.1)))))))))))))))))))))))))))), ((cell_far (p := ⟨gb336, _, none⟩) NB335_336.out _).trans (((cell_far (p := ⟨gb336, _, none⟩) NB335_336.out _).trans (((cell_far (p := ⟨gb336, _, none⟩) NB335_336.out _).trans (((cell_far (p := ⟨gb336, _, none⟩) NB335_336.out _).trans (((cell_far (p := ⟨gb336, _, none⟩) NB335_336.out _).trans (((cell_far (p := ⟨gb336, _, none⟩) NB335_336.out _).trans (((cell_far (p := ⟨gb336, _, none⟩) NB335_336.out _).trans (((cell_far (p := ⟨gb336, _, none⟩) NB335_336.out _).trans (((cell_far (p := ⟨gb336, _, none⟩) NB335_336.out _).trans (((cell_far (p := ⟨gb336, _, none⟩) NB335_336.out _).trans (((cell_far (p := ⟨gb336, _, none⟩) NB335_336.out _).trans (((cell_far (p := ⟨gb336, _, none⟩) NB335_336.out _).trans (((cell_far (p := ⟨gb336, _, none⟩) NB335_336.out _).trans (((cell_far (p := ⟨gb336, _, none⟩) NB335_336.out _).trans (hHeld.2.2.2.2.2.2.2.2.2.2.2.1)))))))))))))))))))))))))))), ((cell_far (p := ⟨gb336, _, none⟩) NB335_336.out _).trans (((cell_far (p := ⟨gb336, _, none⟩) NB335_336.out _).trans (((cell_far (p := ⟨gb336, _, none⟩) NB335_336.out _).trans (((cell_far (p := ⟨gb336, _, none⟩) NB335_336.out _).trans (((cell_far (p := ⟨gb336, _, none⟩) NB335_336.out _).trans (((cell_far (p := ⟨gb336, _, none⟩) NB335_336.out _).trans (((cell_far (p := ⟨gb336, _, none⟩) NB335_336.out _).trans (((cell_far (p := ⟨gb336, _, none⟩) NB335_336.out _).trans (((cell_far (p := ⟨gb336, _, none⟩) NB335_336.out _).trans (((cell_far (p := ⟨gb336, _, none⟩) NB335_336.out _).trans (((cell_far (p := ⟨gb336, _, none⟩) NB335_336.out _).trans (((cell_far (p := ⟨gb336, _, none⟩) NB335_336.out _).trans (((cell_far (p := ⟨gb336, _, none⟩) NB335_336.out _).trans (((cell_far (p := ⟨gb336, _, none⟩) NB335_336.out _).trans (hHeld.2.2.2.2.2.2.2.2.2.2.2.2.1)))))))))))))))))))))))))))), ((cell_far (p := ⟨gb336, _, none⟩) NB335_336.out _).trans (((cell_far (p := ⟨gb336, _, none⟩) NB335_336.out _).trans (((cell_far (p := ⟨gb336, _, none⟩) NB335_336.out _).trans (((cell_far (p := ⟨gb336, _, none⟩) NB335_336.out _).trans (((cell_far (p := ⟨gb336, _, none⟩) NB335_336.out _).trans (((cell_far (p := ⟨gb336, _, none⟩) NB335_336.out _).trans (((cell_far (p := ⟨gb336, _, none⟩) NB335_336.out _).trans (((cell_far (p := ⟨gb336, _, none⟩) NB335_336.out _).trans (((cell_far (p := ⟨gb336, _, none⟩) NB335_336.out _).trans (((cell_far (p := ⟨gb336, _, none⟩) NB335_336.out _).trans (((cell_far (p := ⟨gb336, _, none⟩) NB335_336.out _).trans (((cell_far (p := ⟨gb336, _, none⟩) NB335_336.out _).trans (((cell_far (p := ⟨gb336, _, none⟩) NB335_336.out _).trans (((cell_far (p := ⟨gb336, _, none⟩) NB335_336.out _).trans (hHeld.2.2.2.2.2.2.2.2.2.2.2.2.2))))))))))))))))))))))))))))⟩ (fun hHeld => ?_)
      clear hK K
      refine done_ (done_of HT_.out (by kernel_rfl)) ?_
      try go_wp2
      refine bodyPost_ret (results_cell_row rfl _ _ gb336 38 #[.int .u64 t341, .int .u64 t342, .int .u64 t343, .int .u64 t344, .int .u64 t345, .int .u64 t346, .int .u64 t347, .int .u64 t348, .int .u64 t349, .int .u64 t350, .int .u64 t351, .int .u64 t352, .int .u64 t353, .int .u64 t354] (0, 0) _ rfl ?hblk Try.underlying38 rfl (by kernel_rfl)) rfl ?_
      case hblk => (with_reducible repeat (first | refine blk_drewN ?_ _ | refine blk_drew ?_ | refine blk_alloc ?_ _)); refine blk_put (cs := #[.int .u64 t341, .int .u64 t342, .int .u64 t343, .int .u64 t344, .int .u64 t345, .int .u64 t346, .int .u64 t347, .int .u64 t348, .int .u64 t349, .int .u64 t350, .int .u64 t351, .int .u64 t352, .int .u64 t353, .int .u64 0]) ?_ 13 _ rfl; (with_reducible repeat (first | refine blk_drewN ?_ _ | refine blk_drew ?_ | refine blk_alloc ?_ _)); refine blk_put (cs := #[.int .u64 t341, .int .u64 t342, .int .u64 t343, .int .u64 t344, .int .u64 t345, .int .u64 t346, .int .u64 t347, .int .u64 t348, .int .u64 t349, .int .u64 t350, .int .u64 t351, .int .u64 t352, .int .u64 0, .int .u64 0]) ?_ 12 _ rfl; (with_reducible repeat (first | refine blk_drewN ?_ _ | refine blk_drew ?_ | refine blk_alloc ?_ _)); refine blk_put (cs := #[.int .u64 t341, .int .u64 t342, .int .u64 t343, .int .u64 t344, .int .u64 t345, .int .u64 t346, .int .u64 t347, .int .u64 t348, .int .u64 t349, .int .u64 t350, .int .u64 t351, .int .u64 0, .int .u64 0, .int .u64 0]) ?_ 11 _ rfl; (with_reducible repeat (first | refine blk_drewN ?_ _ | refine blk_drew ?_ | refine blk_alloc ?_ _)); refine blk_put (cs := #[.int .u64 t341, .int .u64 t342, .int .u64 t343, .int .u64 t344, .int .u64 t345, .int .u64 t346, .int .u64 t347, .int .u64 t348, .int .u64 t349, .int .u64 t350, .int .u64 0, .int .u64 0, .int .u64 0, .int .u64 0]) ?_ 10 _ rfl; (with_reducible repeat (first | refine blk_drewN ?_ _ | refine blk_drew ?_ | refine blk_alloc ?_ _)); refine blk_put (cs := #[.int .u64 t341, .int .u64 t342, .int .u64 t343, .int .u64 t344, .int .u64 t345, .int .u64 t346, .int .u64 t347, .int .u64 t348, .int .u64 t349, .int .u64 0, .int .u64 0, .int .u64 0, .int .u64 0, .int .u64 0]) ?_ 9 _ rfl; (with_reducible repeat (first | refine blk_drewN ?_ _ | refine blk_drew ?_ | refine blk_alloc ?_ _)); refine blk_put (cs := #[.int .u64 t341, .int .u64 t342, .int .u64 t343, .int .u64 t344, .int .u64 t345, .int .u64 t346, .int .u64 t347, .int .u64 t348, .int .u64 0, .int .u64 0, .int .u64 0, .int .u64 0, .int .u64 0, .int .u64 0]) ?_ 8 _ rfl; (with_reducible repeat (first | refine blk_drewN ?_ _ | refine blk_drew ?_ | refine blk_alloc ?_ _)); refine blk_put (cs := #[.int .u64 t341, .int .u64 t342, .int .u64 t343, .int .u64 t344, .int .u64 t345, .int .u64 t346, .int .u64 t347, .int .u64 0, .int .u64 0, .int .u64 0, .int .u64 0, .int .u64 0, .int .u64 0, .int .u64 0]) ?_ 7 _ rfl; (with_reducible repeat (first | refine blk_drewN ?_ _ | refine blk_drew ?_ | refine blk_alloc ?_ _)); refine blk_put (cs := #[.int .u64 t341, .int .u64 t342, .int .u64 t343, .int .u64 t344, .int .u64 t345, .int .u64 t346, .int .u64 0, .int .u64 0, .int .u64 0, .int .u64 0, .int .u64 0, .int .u64 0, .int .u64 0, .int .u64 0]) ?_ 6 _ rfl; (with_reducible repeat (first | refine blk_drewN ?_ _ | refine blk_drew ?_ | refine blk_alloc ?_ _)); refine blk_put (cs := #[.int .u64 t341, .int .u64 t342, .int .u64 t343, .int .u64 t344, .int .u64 t345, .int .u64 0, .int .u64 0, .int .u64 0, .int .u64 0, .int .u64 0, .int .u64 0, .int .u64 0, .int .u64 0, .int .u64 0]) ?_ 5 _ rfl; (with_reducible repeat (first | refine blk_drewN ?_ _ | refine blk_drew ?_ | refine blk_alloc ?_ _)); refine blk_put (cs := #[.int .u64 t341, .int .u64 t342, .int .u64 t343, .int .u64 t344, .int .u64 0, .int .u64 0, .int .u64 0, .int .u64 0, .int .u64 0, .int .u64 0, .int .u64 0, .int .u64 0, .int .u64 0, .int .u64 0]) ?_ 4 _ rfl; (with_reducible repeat (first | refine blk_drewN ?_ _ | refine blk_drew ?_ | refine blk_alloc ?_ _)); refine blk_put (cs := #[.int .u64 t341, .int .u64 t342, .int .u64 t343, .int .u64 0, .int .u64 0, .int .u64 0, .int .u64 0, .int .u64 0, .int .u64 0, .int .u64 0, .int .u64 0, .int .u64 0, .int .u64 0, .int .u64 0]) ?_ 3 _ rfl; (with_reducible repeat (first | refine blk_drewN ?_ _ | refine blk_drew ?_ | refine blk_alloc ?_ _)); refine blk_put (cs := #[.int .u64 t341, .int .u64 t342, .int .u64 0, .int .u64 0, .int .u64 0, .int .u64 0, .int .u64 0, .int .u64 0, .int .u64 0, .int .u64 0, .int .u64 0, .int .u64 0, .int .u64 0, .int .u64 0]) ?_ 2 _ rfl; (with_reducible repeat (first | refine blk_drewN ?_ _ | refine blk_drew ?_ | refine blk_alloc ?_ _)); refine blk_put (cs := #[.int .u64 t341, .int .u64 0, .int .u64 0, .int .u64 0, .int .u64 0, .int .u64 0, .int .u64 0, .int .u64 0, .int .u64 0, .int .u64 0, .int .u64 0, .int .u64 0, .int .u64 0, .int .u64 0]) ?_ 1 _ rfl; (with_reducible repeat (first | refine blk_drewN ?_ _ | refine blk_drew ?_ | refine blk_alloc ?_ _)); refine blk_put (cs := #[.int .u64 0, .int .u64 0, .int .u64 0, .int .u64 0, .int .u64 0, .int .u64 0, .int .u64 0, .int .u64 0, .int .u64 0, .int .u64 0, .int .u64 0, .int .u64 0, .int .u64 0, .int .u64 0]) ?_ 0 _ rfl; (with_reducible repeat (first | refine blk_drewN ?_ _ | refine blk_drew ?_ | refine blk_alloc ?_ _)); exact BK336.out
      exact ⟨by first | rfl | (simp [errW_none, errW_some] <;> rfl) | (simp only [← hji4, ← hji5]; first | rfl | (simp [errW_none, errW_some] <;> rfl)) | (simp [*, errW_none, errW_some] <;> rfl), by repeat (first | (with_reducible first | exact HB.out | apply below_alloc | apply pw_below_drewN | apply below_drew1 | refine below_set ?_ GE335.out | refine below_set ?_ GE336.out) | exact HB.out)⟩
    · rw [if_neg c7] at H
      exact absurd H (by simp)
  · rw [if_neg c6] at H
    exact absurd H (by simp)

end Go.Proofs.Ytcgfgodpiobcfaa.R
