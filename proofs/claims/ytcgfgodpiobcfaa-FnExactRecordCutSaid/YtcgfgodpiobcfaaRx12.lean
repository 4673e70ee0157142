/- The walk of functions of the given program: what each computes, as a Lean function, and that the code comes to it. Written by a program of this session's. No condition but each theorem's own. -/
import Derived.Test.YtcgfgodpiobcfaaRD
import Derived.Test.YtcgfgodpiobcfaaRx10
import Derived.Test.YtcgfgodpiobcfaaRx11
namespace Go.Proofs.Ytcgfgodpiobcfaa.R
open Go.RowKit Go.Proofs.YtcgfgodpiobcfaaW.PrintWords Go.Proofs.YtcgfgodpiobcfaaW.PrintLast Go.Proofs.YtcgfgodpiobcfaaW.PrintMore
attribute [local go_sem] max2_int min2_int max_two min_two max_three min_three max_four min_four   -- for this text's walks alone
set_option linter.unusedVariables false
set_option linter.unusedSimpArgs false

/-! ### impl_DiskWrite: function 23 -/
theorem disk_step_len (d : List Int) (x : S92) : (disk_step.f d x).length = d.length := by
  unfold disk_step.f; repeat' split
  all_goals simp
theorem disk_take (l : List S92) (j : Nat) (hj : j < l.length) (d0 : List Int) : (l.take (j + 1)).foldl disk_step.f d0 = disk_step.f ((l.take j).foldl disk_step.f d0) (rd_T92 l (j : Int)) := by
  rw [List.take_succ_eq_append_getElem hj, List.foldl_append]
  simp [rd_T92, List.getD_eq_getElem?_getD, List.getElem?_eq_getElem hj]
theorem disk_put_cells (d : List Int) (i : Nat) (v : Int) : (disk_cells.f d).setIfInBounds i (.int .u64 v) = disk_cells.f (d.set i v) := by simp [disk_cells.f, List.map_set]
theorem disk_cell (d : List Int) (i : Nat) (h : i < d.length) : (disk_cells.f d)[i]? = some (.int .u64 (d.getD i 0)) := by simp [disk_cells.f, List.getD_eq_getElem?_getD, List.getElem?_eq_getElem h]
theorem disk_cells_len (d : List Int) : (disk_cells.f d).size = d.length := by simp [disk_cells.f]
theorem disk_open (d : List Int) (h : d.length = 14) : disk_cells.f d = #[.int .u64 (d.getD 0 0), .int .u64 (d.getD 1 0), .int .u64 (d.getD 2 0), .int .u64 (d.getD 3 0), .int .u64 (d.getD 4 0), .int .u64 (d.getD 5 0), .int .u64 (d.getD 6 0), .int .u64 (d.getD 7 0), .int .u64 (d.getD 8 0), .int .u64 (d.getD 9 0), .int .u64 (d.getD 10 0), .int .u64 (d.getD 11 0), .int .u64 (d.getD 12 0), .int .u64 (d.getD 13 0)] := by
  rcases d with _ | ⟨x0, _ | ⟨x1, _ | ⟨x2, _ | ⟨x3, _ | ⟨x4, _ | ⟨x5, _ | ⟨x6, _ | ⟨x7, _ | ⟨x8, _ | ⟨x9, _ | ⟨x10, _ | ⟨x11, _ | ⟨x12, _ | ⟨x13, _ | ⟨x14, d⟩⟩⟩⟩⟩⟩⟩⟩⟩⟩⟩⟩⟩⟩⟩
  all_goals first | rfl | (exfalso; simp at h; done) | (exfalso; simp only [List.length_cons] at h; omega)
set_option maxHeartbeats 8000000 in
set_option maxRecDepth 100000 in
theorem impl_DiskWrite.calls (a0_0 : Int) (a0_1 : Int) (a0_2 : Int) (a0_3 : Int) (a0_4 : Int) (a0_5 : Int) (a0_6 : Int) (a0_7 : Int) (a0_8 : Int) (a0_9 : Int) (a0_10 : Int) (a0_11 : Int) (a0_12 : Int) (a0_13 : Int) (A1 : Option Addr) (c1 : Nat) (l1 : List (S92)) (r1 : Int) (r2 : Int) (r3 : Int) (r4 : Int) (r5 : Int) (r6 : Int) (r7 : Int) (r8 : Int) (r9 : Int) (r10 : Int) (r11 : Int) (r12 : Int) (r13 : Int) (r14 : Int) (w : World) (hr1 : Kd.C k92 w A1 l1.length l1) (hc1 : l1.length ≤ c1) (h : impl_DiskWrite.f a0_0 a0_1 a0_2 a0_3 a0_4 a0_5 a0_6 a0_7 a0_8 a0_9 a0_10 a0_11 a0_12 a0_13 l1 = some (r1, r2, r3, r4, r5, r6, r7, r8, r9, r10, r11, r12, r13, r14)) :
    Calls Try.prog 23 #[.agg #[.int .u64 a0_0, .int .u64 a0_1, .int .u64 a0_2, .int .u64 a0_3, .int .u64 a0_4, .int .u64 a0_5, .int .u64 a0_6, .int .u64 a0_7, .int .u64 a0_8, .int .u64 a0_9, .int .u64 a0_10, .int .u64 a0_11, .int .u64 a0_12, .int .u64 a0_13], .slice A1 l1.length c1] w fun e w' => e = .returned (.agg #[.int .u64 r1, .int .u64 r2, .int .u64 r3, .int .u64 r4, .int .u64 r5, .int .u64 r6, .int .u64 r7, .int .u64 r8, .int .u64 r9, .int .u64 r10, .int .u64 r11, .int .u64 r12, .int .u64 r13, .int .u64 r14]) ∧ Below w.heap.size w w' := by
  have hu38 := Try.underlying38
  have hu92 := Try.underlying92
  have hu30 := Try.underlying30
  have hu85 := Try.underlying85
  have HR1 := Aside0.mk hr1
  have HC1 := Aside0.mk hc1
  clear hr1 hc1
  have HB := Aside0.mk (Below.refl w.heap.size w)
  obtain ⟨d0, hd0⟩ : ∃ d0, d0 = [a0_0, a0_1, a0_2, a0_3, a0_4, a0_5, a0_6, a0_7, a0_8, a0_9, a0_10, a0_11, a0_12, a0_13] := ⟨_, rfl⟩
  have HD := Aside0.mk (show (l1.take 0).foldl disk_step.f d0 = d0 from rfl)
  have HL := Aside0.mk (show d0.length = 14 by rw [hd0]; rfl)
  have HE := Aside0.mk (show disk_cells.f d0 = #[.int .u64 a0_0, .int .u64 a0_1, .int .u64 a0_2, .int .u64 a0_3, .int .u64 a0_4, .int .u64 a0_5, .int .u64 a0_6, .int .u64 a0_7, .int .u64 a0_8, .int .u64 a0_9, .int .u64 a0_10, .int .u64 a0_11, .int .u64 a0_12, .int .u64 a0_13] by rw [hd0]; rfl)
  have H := Aside0.mk (show disk_out.f (l1.foldl disk_step.f d0) = (r1, r2, r3, r4, r5, r6, r7, r8, r9, r10, r11, r12, r13, r14) by rw [hd0]; unfold impl_DiskWrite.f at h; split at h; (· exact Option.some.inj h); exact absurd h (by simp))
  have HLEN := Aside0.mk (show l1.length ≤ 4000000000000000000 by unfold impl_DiskWrite.f at h; split at h; (· assumption); exact absurd h (by simp))
  clear h hd0
  go_enter Try.func23, Try.ntmps23
  go_wp2_with (first | ((with_reducible refine gate_dst (N := 2) rfl ?_); refine box_event ?hg (N := 2) ?hd (cs := #[.int .u64 a0_0, .int .u64 a0_1, .int .u64 a0_2, .int .u64 a0_3, .int .u64 a0_4, .int .u64 a0_5, .int .u64 a0_6, .int .u64 a0_7, .int .u64 a0_8, .int .u64 a0_9, .int .u64 a0_10, .int .u64 a0_11, .int .u64 a0_12, .int .u64 a0_13]) (t := 38) ?hr ?_; (case hd => rfl); (case hg => rfl); (case hr => first | (go_simp; done) | (go_simp; rfl)); intro gb hg w3 hbox hb; have BK0 := Aside0.mk (show w3.heap[gb]? = some (.cells (disk_cells.f d0) 38 (0, 0)) by rw [HE.out]; exact hbox); have HB2 := Aside0.mk (below_step HB.out hb); have GE := Aside0.mk ((by rw [hg]; exact Nat.le_refl _) : w.heap.size ≤ gb); clear hbox hb hg HB) | ((with_reducible refine gate_dst (N := 4) rfl ?_); refine box_event ?hg (N := 4) ?hd (cs := #[.int .u64 0, .int .u64 0, .int .u64 0, .int .u64 0, .int .u64 0, .int .u64 0, .int .u64 0, .int .u64 0, .int .u64 0, .int .u64 0, .int .u64 0, .int .u64 0, .int .u64 0, .int .u64 0]) (t := 38) ?hr ?_; (case hd => rfl); (case hg => rfl); (case hr => first | (go_simp; done) | (go_simp; rfl)); intro gr hg w4 hbox hb; have BK1 := Aside0.mk (blk_below (g := gb) (by (with_reducible repeat (first | refine blk_drewN ?_ _ | refine blk_drew ?_ | refine blk_alloc ?_ _)); exact BK0.out) hb); have HB3 := Aside0.mk (below_step (by repeat (first | (with_reducible first | exact HB2.out | apply below_alloc | apply pw_below_drewN | apply below_drew1) | exact HB2.out)) hb); have BR := Aside0.mk hbox; have GR := Aside0.mk ((by rw [hg]; exact (below_size (by repeat (first | (with_reducible first | exact HB2.out | apply below_alloc | apply pw_below_drewN | apply below_drew1) | exact HB2.out))) : w.heap.size ≤ gr)); have NE := Aside0.mk ((by rw [hg]; exact Nat.ne_of_lt (blk_lt (g := gb) (by (with_reducible repeat (first | refine blk_drewN ?_ _ | refine blk_drew ?_ | refine blk_alloc ?_ _)); exact BK0.out)) : gb ≠ gr)); clear hbox hb hg BK0 HB2))
  go_loopg [9] (l1.length + 1) (fun kq v9 w' => ∃ (j : Nat) (d : List Int), v9 = .int .i64 (j : Int) ∧ Aside0 (j ≤ l1.length) ∧ Aside0 (kq + j = l1.length + 1) ∧ Aside0 ((l1.take j).foldl disk_step.f d0 = d) ∧ Aside0 (d.length = 14) ∧ Aside0 (w'.heap[gb]? = some (.cells (disk_cells.f d) 38 (0, 0))) ∧ Aside0 (w'.heap[gr]? = some (.cells #[.int .u64 0, .int .u64 0, .int .u64 0, .int .u64 0, .int .u64 0, .int .u64 0, .int .u64 0, .int .u64 0, .int .u64 0, .int .u64 0, .int .u64 0, .int .u64 0, .int .u64 0, .int .u64 0] 38 (0, 0))) ∧ Aside0 (Below w.heap.size w w'))
  case atStart => exact ⟨0, d0, by first | rfl | (simp; done) | (simp [*]; done), ⟨Nat.zero_le _⟩, ⟨rfl⟩, HD, HL, ⟨by (with_reducible repeat (first | refine blk_drewN ?_ _ | refine blk_drew ?_ | refine blk_alloc ?_ _)); exact BK1.out⟩, ⟨by (with_reducible repeat (first | refine blk_drewN ?_ _ | refine blk_drew ?_ | refine blk_alloc ?_ _)); exact BR.out⟩, ⟨by repeat (first | (with_reducible first | exact HB3.out | apply below_alloc | apply pw_below_drewN | apply below_drew1) | exact HB3.out)⟩⟩
  case round =>
    clear BK1 BR HB3 HD HL HE
    obtain ⟨j, d, rfl, HJ, HKJ, HD, HL, BK1, BR, HB⟩ := hrel
    cases gk with
    | zero => exact absurd HKJ.out (by have := HJ.out; omega)
    | succ k1 =>
      by_cases hj : j < l1.length
      · have p0 : (0 : Int) ≤ (j : Int) := by omega
        have q0 : (j : Int) < (l1.length : Int) := by omega
        obtain ⟨ad, e, hx0, hx1, hx2⟩ := at_T92 HR1.out (j : Int) p0 q0
        cases e
        obtain ⟨x, hx⟩ : ∃ x, rd_T92 l1 (j : Int) = x := ⟨_, rfl⟩
        rw [hx] at hx0 hx1 hx2
        replace hx0 := (HB.out.cell (World.block_lt_of_cell? w _ hx0)).trans hx0
        replace hx1 := (HB.out.cell (World.block_lt_of_cell? w _ hx1)).trans hx1
        replace hx2 := (HB.out.cell (World.block_lt_of_cell? w _ hx2)).trans hx2
        have hj1 : decide ((j : Int) < (l1.length : Int)) = true := decide_eq_true q0
        have HS := Aside0.mk (show (l1.take (j + 1)).foldl disk_step.f d0 = disk_step.f d x by rw [← HD.out, ← hx]; exact disk_take l1 j hj d0)
        have HJ1 := Aside0.mk (show j + 1 ≤ l1.length from hj)
        have HKJ1 := Aside0.mk (show k1 + (j + 1) = l1.length + 1 by have := HKJ.out; omega)
        have HL1 := Aside0.mk (show (disk_step.f d x).length = 14 by rw [disk_step_len]; exact HL.out)
        clear HD hx HJ HKJ hj
        simp only [Int.toNat_natCast] at hx0 hx1 hx2
        replace p0 := eq_true p0
        replace q0 := eq_true q0
        by_cases hin : 0 ≤ x.f1 ∧ x.f1 ≤ 6
        · have HI := Aside0.mk (show impl_in.f x.f1 0 6 = some true by unfold impl_in.f; rw [if_pos hin.1, decide_eq_true hin.2])
          by_cases h1 : x.f0 = 1
          · have hstep : disk_step.f d x = d.set x.f1.toNat x.f2 := by unfold disk_step.f; rw [if_pos hin, if_pos h1]
            rw [hstep] at HS HL1
            have hb1 : (x.f0 == 1) = true := beq_iff_eq.mpr h1
            clear hstep
            have H1 := Aside0.mk h1
            clear h1
            go_wp2_with (first | ((with_reducible refine gate_dst (N := 6) rfl ?_); refine box_event ?hg (N := 6) ?hd (cs := #[.int .i64 0, .int .i64 0, .int .u64 0]) (t := 92) ?hr ?_; (case hd => rfl); (case hg => rfl); (case hr => first | (go_simp; done) | (go_simp; rfl)); intro gx hg w6 hbox hb; have BK1_ := BK1; have BR_ := BR; have BK1 := Aside0.mk (blk_below (g := gb) (by (with_reducible repeat (first | refine blk_drewN ?_ _ | refine blk_drew ?_ | refine blk_alloc ?_ _)); exact BK1.out) hb); have BR := Aside0.mk (blk_below (g := gr) (by (with_reducible repeat (first | refine blk_drewN ?_ _ | refine blk_drew ?_ | refine blk_alloc ?_ _)); exact BR.out) hb); have NX := Aside0.mk ((by rw [hg]; exact Nat.ne_of_lt (blk_lt (g := gb) (o := .cells (disk_cells.f d) 38 (0, 0)) (by (with_reducible repeat (first | refine blk_drewN ?_ _ | refine blk_drew ?_ | refine blk_alloc ?_ _)); exact BK1_.out)) : gb ≠ gx)); have NR := Aside0.mk ((by rw [hg]; exact Nat.ne_of_lt (blk_lt (g := gr) (o := .cells #[.int .u64 0, .int .u64 0, .int .u64 0, .int .u64 0, .int .u64 0, .int .u64 0, .int .u64 0, .int .u64 0, .int .u64 0, .int .u64 0, .int .u64 0, .int .u64 0, .int .u64 0, .int .u64 0] 38 (0, 0)) (by (with_reducible repeat (first | refine blk_drewN ?_ _ | refine blk_drew ?_ | refine blk_alloc ?_ _)); exact BR_.out)) : gr ≠ gx)); have GX := Aside0.mk ((by rw [hg]; exact (below_size (by repeat (first | (with_reducible first | exact HB.out | apply below_alloc | apply pw_below_drewN | apply below_drew1 ) | exact HB.out))) : w.heap.size ≤ gx)); have HB := Aside0.mk (below_step (by repeat (first | (with_reducible first | exact HB.out | apply below_alloc | apply pw_below_drewN | apply below_drew1 ) | exact HB.out)) hb); have BX := Aside0.mk hbox; clear hbox hb hg; have hnx := NX.out; have hnx2 := NX.out.symm; have hcz0 : w6.cell? ⟨gx, 0, none⟩ = some (.int .i64 0) := (blk_cell BX.out 0).trans rfl; have hfz0 := blk_frozen BX.out 0; have hcz1 : w6.cell? ⟨gx, 1, none⟩ = some (.int .i64 0) := (blk_cell BX.out 1).trans rfl; have hfz1 := blk_frozen BX.out 1; have hcz2 : w6.cell? ⟨gx, 2, none⟩ = some (.int .u64 0) := (blk_cell BX.out 2).trans rfl; have hfz2 := blk_frozen BX.out 2) | ((with_reducible refine gate_callee (f := 60) rfl ?_); refine goesL_ (some 15) rfl rfl Try.func60 (by kernel_rfl) rfl #[.int .i64 x.f1, .int .i64 0, .int .i64 6] rfl (by (try simp only [List.map_toArray, List.map_cons, List.map_nil]); first | done | rfl) ?_; (with_reducible refine (impl_in.calls x.f1 0 6 true _ HI.out).mono ?_); rintro e w7 ⟨rfl, hdr⟩; refine ⟨_, rfl, ?_⟩; have BX2 := Aside0.mk (show w7.heap[gx]? = some (.cells #[.int .i64 x.f0, .int .i64 x.f1, .int .u64 x.f2] 92 (0, 0)) by obtain ⟨nd, rfl⟩ := hdr; (with_reducible repeat (first | refine blk_drewN ?_ _ | refine blk_drew ?_ | refine blk_alloc ?_ _)); refine blk_put (cs := #[.int .i64 x.f0, .int .i64 x.f1, .int .u64 0]) ?_ 2 _ rfl; (with_reducible repeat (first | refine blk_drewN ?_ _ | refine blk_drew ?_ | refine blk_alloc ?_ _)); refine blk_put (cs := #[.int .i64 x.f0, .int .i64 0, .int .u64 0]) ?_ 1 _ rfl; (with_reducible repeat (first | refine blk_drewN ?_ _ | refine blk_drew ?_ | refine blk_alloc ?_ _)); refine blk_put (cs := #[.int .i64 0, .int .i64 0, .int .u64 0]) ?_ 0 _ rfl; (with_reducible repeat (first | refine blk_drewN ?_ _ | refine blk_drew ?_ | refine blk_alloc ?_ _)); exact BX.out); have BK2 := Aside0.mk (show w7.heap[gb]? = some (.cells (disk_cells.f d) 38 (0, 0)) by obtain ⟨nd, rfl⟩ := hdr; (with_reducible repeat (first | refine blk_drewN ?_ _ | refine blk_drew ?_ | refine blk_alloc ?_ _)); refine blk_far ?_ NX.out _; (with_reducible repeat (first | refine blk_drewN ?_ _ | refine blk_drew ?_ | refine blk_alloc ?_ _)); refine blk_far ?_ NX.out _; (with_reducible repeat (first | refine blk_drewN ?_ _ | refine blk_drew ?_ | refine blk_alloc ?_ _)); refine blk_far ?_ NX.out _; (with_reducible repeat (first | refine blk_drewN ?_ _ | refine blk_drew ?_ | refine blk_alloc ?_ _)); exact BK1.out); have BR2 := Aside0.mk (show w7.heap[gr]? = some (.cells #[.int .u64 0, .int .u64 0, .int .u64 0, .int .u64 0, .int .u64 0, .int .u64 0, .int .u64 0, .int .u64 0, .int .u64 0, .int .u64 0, .int .u64 0, .int .u64 0, .int .u64 0, .int .u64 0] 38 (0, 0)) by obtain ⟨nd, rfl⟩ := hdr; (with_reducible repeat (first | refine blk_drewN ?_ _ | refine blk_drew ?_ | refine blk_alloc ?_ _)); refine blk_far ?_ NR.out _; (with_reducible repeat (first | refine blk_drewN ?_ _ | refine blk_drew ?_ | refine blk_alloc ?_ _)); refine blk_far ?_ NR.out _; (with_reducible repeat (first | refine blk_drewN ?_ _ | refine blk_drew ?_ | refine blk_alloc ?_ _)); refine blk_far ?_ NR.out _; (with_reducible repeat (first | refine blk_drewN ?_ _ | refine blk_drew ?_ | refine blk_alloc ?_ _)); exact BR.out); have HB2 := Aside0.mk (show Below w.heap.size w w7 by obtain ⟨nd, rfl⟩ := hdr; repeat (first | (with_reducible first | exact HB.out | apply below_alloc | apply pw_below_drewN | apply below_drew1 | refine below_set ?_ GX.out ) | exact HB.out)); clear hdr; have hd0 : w7.cell? ⟨gx, 0, none⟩ = some (.int .i64 x.f0) := (blk_cell BX2.out 0).trans rfl; clear hcz0 hcz1 hcz2 hfz0 hfz1 hfz2))
            obtain ⟨n, hn⟩ : ∃ n : Nat, x.f1 = (n : Int) := ⟨x.f1.toNat, by have := hin.1; omega⟩
            have hn7 : n < 7 := by have := hin.2; omega
            have htn : x.f1.toNat = n := by omega
            rw [htn] at HS HL1
            rw [hn] at BX2
            have NXs := Aside0.mk NX.out.symm
            have BX3 := Aside0.mk (blk_drew BX2.out)
            have BK3 := Aside0.mk (blk_drew BK2.out)
            have BR3 := Aside0.mk (blk_drew BR2.out)
            have HB3 := Aside0.mk (below_drew1 HB2.out)
            have hp0 : (0 ≤ (n : Int)) = True := eq_true (by omega)
            have hp1 : ((n : Int) < 7) = True := eq_true (by omega)
            have hp2 : decide (0 ≤ (n : Int)) = true := by simp
            have hp3 : decide ((n : Int) < 7) = true := by simp; omega
            refine start_ (n := 10) (S := fun w' => w'.cell? ⟨gx, 1, none⟩ = some (.int .i64 (n : Int)) ∧ w'.cell? ⟨gx, 2, none⟩ = some (.int .u64 x.f2)) (ds := [9]) #[false, false, false, false, false, false, false, false, false, false] (by kernel_rfl) rfl rfl ⟨(blk_cell BX3.out 1).trans rfl, (blk_cell BX3.out 2).trans rfl⟩ (fun hHeld => ?_)
            clear BX2 BK2 BR2 HB2 hd0 hx0 hx1 hx2 hn htn
            generalize w7.drew = w8 at BX3 BK3 BR3 HB3 hHeld ⊢
            refine pure_ (i := 0) (N := some 21) (v := ?_) (a' := ?_) #[true, false, false, false, false, false, false, false, false, false] rfl rfl (by kernel_rfl) (fun _ _ _ h => h) (Or.inl ⟨by rfl, ?_⟩) ?_ ?_
            rotate_left
            · intro w'
              go_simp
              with_reducible rfl
            rotate_left
            · simp only [Act.put, List.setIfInBounds_toArray, List.set_cons_zero, List.set_cons_succ, i64_w, i32_w]
              rfl
            refine pure_ (i := 2) (N := some 23) (v := ?_) (a' := ?_) #[true, false, true, false, false, false, false, false, false, false] rfl rfl (by kernel_rfl) (fun _ _ _ h => h) (Or.inl ⟨by rfl, ?_⟩) ?_ ?_
            rotate_left
            · intro w'
              go_simp
              with_reducible rfl
            rotate_left
            · simp only [Act.put, List.setIfInBounds_toArray, List.set_cons_zero, List.set_cons_succ, i64_w, i32_w]
              rfl
            refine take_ (i := 3) (N := some 24) (v := ?_) (a' := ?_) #[true, false, true, true, false, false, false, false, false, false] rfl rfl (by kernel_rfl) (fun _ _ _ h => h) (Or.inl ⟨by rfl, ?_⟩) hHeld ?_ ?_
            rotate_left
            · rintro w' ⟨s0, s1⟩
              go_simp
              with_reducible rfl
            rotate_left
            · simp only [Act.put, List.setIfInBounds_toArray, List.set_cons_zero, List.set_cons_succ, i64_w, i32_w]
              rfl
            refine pure_ (i := 6) (N := some 27) (v := ?_) (a' := ?_) #[true, false, true, true, false, false, true, false, false, false] rfl rfl (by kernel_rfl) (fun _ _ _ h => h) (Or.inl ⟨by rfl, ?_⟩) ?_ ?_
            rotate_left
            · intro w'
              go_simp
              with_reducible rfl
            rotate_left
            · simp only [Act.put, List.setIfInBounds_toArray, List.set_cons_zero, List.set_cons_succ, i64_w, i32_w]
              rfl
            refine take_ (i := 7) (N := some 28) (v := ?_) (a' := ?_) #[true, false, true, true, false, false, true, true, false, false] rfl rfl (by kernel_rfl) (fun _ _ _ h => h) (Or.inl ⟨by rfl, ?_⟩) hHeld ?_ ?_
            rotate_left
            · rintro w' ⟨s0, s1⟩
              go_simp
              with_reducible rfl
            rotate_left
            · simp only [Act.put, List.setIfInBounds_toArray, List.set_cons_zero, List.set_cons_succ, i64_w, i32_w]
              rfl
            refine one_ (i := 1) (N := some 22) #[true, true, true, true, false, false, true, true, false, false] rfl rfl (by kernel_rfl) (by decide) (fun K hK => ?_)
            refine goes_ Try.func55 (by kernel_rfl) rfl #[.pointer (some ⟨gb, 0, none⟩)] (by rfl) rfl rfl (by (try simp only [List.map_toArray, List.map_cons, List.map_nil]); first | done | rfl) ?_
            refine (words_calls gb 0 _).mono ?_
            rintro e w9 ⟨gw, rfl, hwd, hge, hb3⟩
            refine ⟨_, rfl, ?_⟩
            have BX4 := Aside0.mk (blk_below BX3.out hb3)
            have BK4 := Aside0.mk (blk_below BK3.out hb3)
            have BR4 := Aside0.mk (blk_below BR3.out hb3)
            have HB4 := Aside0.mk (below_step HB3.out hb3)
            have HW := Aside0.mk hwd
            have NW := Aside0.mk (show gb ≠ gw from fun e => by have := blk_lt BK3.out; omega)
            clear hwd hge hb3 BX3 BK3 BR3 HB3 hHeld
            refine hK.out _ _ ⟨(blk_cell BX4.out 1).trans rfl, (blk_cell BX4.out 2).trans rfl⟩ (fun hHeld => ?_)
            clear hK K
            refine norm_ (a' := ?_) ?_ ?_
            rotate_left
            · show Act.put _ (some 22) _ = _
              simp only [Act.put, List.setIfInBounds_toArray, List.set_cons_zero, List.set_cons_succ, i64_w, i32_w]
              rfl
            refine pure_ (i := 4) (N := some 25) (v := ?_) (a' := ?_) #[true, true, true, true, true, false, true, true, false, false] rfl rfl (by kernel_rfl) (fun _ _ _ h => h) (Or.inl ⟨by rfl, ?_⟩) ?_ ?_
            rotate_left
            · intro w'
              go_simp
              with_reducible rfl
            rotate_left
            · simp only [Act.put, List.setIfInBounds_toArray, List.set_cons_zero, List.set_cons_succ, i64_w, i32_w]
              rfl
            have hptr : w9.cell? ⟨gw, n, none⟩ = some (.pointer (some ⟨gb, n, none⟩)) := by
              refine (blk_cell HW.out n).trans ?_
              rcases n with _ | _ | _ | _ | _ | _ | _ | n
              all_goals first | rfl | omega
            refine one_ (i := 5) (N := some 26) #[true, true, true, true, true, true, true, true, false, false] rfl rfl (by kernel_rfl) (by decide) (fun K hK => ?_)
            refine value_ (w1 := w9) (v := .pointer (some ⟨gb, n, none⟩)) (by rfl) rfl (by go_simp) ?_
            refine hK.out _ _ hHeld (fun hHeld => ?_)
            clear hK K
            refine norm_ (a' := ?_) ?_ ?_
            rotate_left
            · show Act.put _ (some 26) _ = _
              simp only [Act.put, List.setIfInBounds_toArray, List.set_cons_zero, List.set_cons_succ, i64_w, i32_w]
              rfl
            refine pure_ (i := 8) (N := some 29) (v := ?_) (a' := ?_) #[true, true, true, true, true, true, true, true, true, false] rfl rfl (by kernel_rfl) (fun _ _ _ h => h) (Or.inl ⟨by rfl, ?_⟩) ?_ ?_
            rotate_left
            · intro w'
              go_simp
              with_reducible rfl
            rotate_left
            · simp only [Act.put, List.setIfInBounds_toArray, List.set_cons_zero, List.set_cons_succ, i64_w, i32_w]
              rfl
            refine last_ (i := 9) (N := none) #[true, true, true, true, true, true, true, true, true, true] rfl rfl (by kernel_rfl) (by decide) (fun K hK => ?_)
            have hs : w9.cell? ⟨gb, n, none⟩ = some (.int .u64 (d.getD (n) 0)) := (blk_cell BK4.out (n)).trans (disk_cell d (n) (by rw [HL.out]; omega))
            have hfs := blk_frozen BK4.out (n)
            refine skip_ (w1 := ?_) (by rfl) rfl ?_ ?_
            rotate_left
            · go_simp
              rfl
            refine hK.out _ _ ?_
            clear hK K
            refine done_ (by kernel_rfl) ?_
            have BK5 := Aside0.mk (blk_put BK4.out (n) (.int .u64 x.f2) (disk_put_cells d (n) x.f2))
            have BR5 := Aside0.mk (blk_far BR4.out (p := ⟨gb, n, none⟩) NE.out.symm (.int .u64 x.f2))
            have HB5 := Aside0.mk (below_set (j := n) (v := .int .u64 x.f2) HB4.out GE.out)
            clear hs hfs hptr hHeld BX4 BK4 BR4 HB4 HW
            generalize w9.setCell ⟨gb, n, none⟩ (.int .u64 x.f2) = w10 at BK5 BR5 HB5 ⊢
            try go_wp2
            go_roundg k1
            case measure => omega
            case rel => exact ⟨j + 1, d.set (n) x.f2, by have := HLEN.out; have := HJ1.out; congr 1; unfold wrap64; omega, HJ1, HKJ1, HS, HL1, ⟨by (with_reducible repeat (first | refine blk_drewN ?_ _ | refine blk_drew ?_ | refine blk_alloc ?_ _)); exact BK5.out⟩, ⟨by (with_reducible repeat (first | refine blk_drewN ?_ _ | refine blk_drew ?_ | refine blk_alloc ?_ _)); exact BR5.out⟩, ⟨by repeat (first | (with_reducible first | exact HB5.out | apply below_alloc | apply pw_below_drewN | apply below_drew1) | exact HB5.out)⟩⟩
          · have hb1 : (x.f0 == 1) = false := beq_eq_false_iff_ne.mpr h1
            by_cases h2 : x.f0 = 2
            · have hstep : disk_step.f d x = d.set (7 + x.f1.toNat) x.f2 := by unfold disk_step.f; rw [if_pos hin, if_neg h1, if_pos h2]
              rw [hstep] at HS HL1
              have hb2 : (x.f0 == 2) = true := beq_iff_eq.mpr h2
              clear hstep h2
              go_wp2_with (first | ((with_reducible refine gate_dst (N := 6) rfl ?_); refine box_event ?hg (N := 6) ?hd (cs := #[.int .i64 0, .int .i64 0, .int .u64 0]) (t := 92) ?hr ?_; (case hd => rfl); (case hg => rfl); (case hr => first | (go_simp; done) | (go_simp; rfl)); intro gx hg w6 hbox hb; have BK1_ := BK1; have BR_ := BR; have BK1 := Aside0.mk (blk_below (g := gb) (by (with_reducible repeat (first | refine blk_drewN ?_ _ | refine blk_drew ?_ | refine blk_alloc ?_ _)); exact BK1.out) hb); have BR := Aside0.mk (blk_below (g := gr) (by (with_reducible repeat (first | refine blk_drewN ?_ _ | refine blk_drew ?_ | refine blk_alloc ?_ _)); exact BR.out) hb); have NX := Aside0.mk ((by rw [hg]; exact Nat.ne_of_lt (blk_lt (g := gb) (o := .cells (disk_cells.f d) 38 (0, 0)) (by (with_reducible repeat (first | refine blk_drewN ?_ _ | refine blk_drew ?_ | refine blk_alloc ?_ _)); exact BK1_.out)) : gb ≠ gx)); have NR := Aside0.mk ((by rw [hg]; exact Nat.ne_of_lt (blk_lt (g := gr) (o := .cells #[.int .u64 0, .int .u64 0, .int .u64 0, .int .u64 0, .int .u64 0, .int .u64 0, .int .u64 0, .int .u64 0, .int .u64 0, .int .u64 0, .int .u64 0, .int .u64 0, .int .u64 0, .int .u64 0] 38 (0, 0)) (by (with_reducible repeat (first | refine blk_drewN ?_ _ | refine blk_drew ?_ | refine blk_alloc ?_ _)); exact BR_.out)) : gr ≠ gx)); have GX := Aside0.mk ((by rw [hg]; exact (below_size (by repeat (first | (with_reducible first | exact HB.out | apply below_alloc | apply pw_below_drewN | apply below_drew1 ) | exact HB.out))) : w.heap.size ≤ gx)); have HB := Aside0.mk (below_step (by repeat (first | (with_reducible first | exact HB.out | apply below_alloc | apply pw_below_drewN | apply below_drew1 ) | exact HB.out)) hb); have BX := Aside0.mk hbox; clear hbox hb hg; have hnx := NX.out; have hnx2 := NX.out.symm; have hcz0 : w6.cell? ⟨gx, 0, none⟩ = some (.int .i64 0) := (blk_cell BX.out 0).trans rfl; have hfz0 := blk_frozen BX.out 0; have hcz1 : w6.cell? ⟨gx, 1, none⟩ = some (.int .i64 0) := (blk_cell BX.out 1).trans rfl; have hfz1 := blk_frozen BX.out 1; have hcz2 : w6.cell? ⟨gx, 2, none⟩ = some (.int .u64 0) := (blk_cell BX.out 2).trans rfl; have hfz2 := blk_frozen BX.out 2) | ((with_reducible refine gate_callee (f := 60) rfl ?_); refine goesL_ (some 15) rfl rfl Try.func60 (by kernel_rfl) rfl #[.int .i64 x.f1, .int .i64 0, .int .i64 6] rfl (by (try simp only [List.map_toArray, List.map_cons, List.map_nil]); first | done | rfl) ?_; (with_reducible refine (impl_in.calls x.f1 0 6 true _ HI.out).mono ?_); rintro e w7 ⟨rfl, hdr⟩; refine ⟨_, rfl, ?_⟩; have BX2 := Aside0.mk (show w7.heap[gx]? = some (.cells #[.int .i64 x.f0, .int .i64 x.f1, .int .u64 x.f2] 92 (0, 0)) by obtain ⟨nd, rfl⟩ := hdr; (with_reducible repeat (first | refine blk_drewN ?_ _ | refine blk_drew ?_ | refine blk_alloc ?_ _)); refine blk_put (cs := #[.int .i64 x.f0, .int .i64 x.f1, .int .u64 0]) ?_ 2 _ rfl; (with_reducible repeat (first | refine blk_drewN ?_ _ | refine blk_drew ?_ | refine blk_alloc ?_ _)); refine blk_put (cs := #[.int .i64 x.f0, .int .i64 0, .int .u64 0]) ?_ 1 _ rfl; (with_reducible repeat (first | refine blk_drewN ?_ _ | refine blk_drew ?_ | refine blk_alloc ?_ _)); refine blk_put (cs := #[.int .i64 0, .int .i64 0, .int .u64 0]) ?_ 0 _ rfl; (with_reducible repeat (first | refine blk_drewN ?_ _ | refine blk_drew ?_ | refine blk_alloc ?_ _)); exact BX.out); have BK2 := Aside0.mk (show w7.heap[gb]? = some (.cells (disk_cells.f d) 38 (0, 0)) by obtain ⟨nd, rfl⟩ := hdr; (with_reducible repeat (first | refine blk_drewN ?_ _ | refine blk_drew ?_ | refine blk_alloc ?_ _)); refine blk_far ?_ NX.out _; (with_reducible repeat (first | refine blk_drewN ?_ _ | refine blk_drew ?_ | refine blk_alloc ?_ _)); refine blk_far ?_ NX.out _; (with_reducible repeat (first | refine blk_drewN ?_ _ | refine blk_drew ?_ | refine blk_alloc ?_ _)); refine blk_far ?_ NX.out _; (with_reducible repeat (first | refine blk_drewN ?_ _ | refine blk_drew ?_ | refine blk_alloc ?_ _)); exact BK1.out); have BR2 := Aside0.mk (show w7.heap[gr]? = some (.cells #[.int .u64 0, .int .u64 0, .int .u64 0, .int .u64 0, .int .u64 0, .int .u64 0, .int .u64 0, .int .u64 0, .int .u64 0, .int .u64 0, .int .u64 0, .int .u64 0, .int .u64 0, .int .u64 0] 38 (0, 0)) by obtain ⟨nd, rfl⟩ := hdr; (with_reducible repeat (first | refine blk_drewN ?_ _ | refine blk_drew ?_ | refine blk_alloc ?_ _)); refine blk_far ?_ NR.out _; (with_reducible repeat (first | refine blk_drewN ?_ _ | refine blk_drew ?_ | refine blk_alloc ?_ _)); refine blk_far ?_ NR.out _; (with_reducible repeat (first | refine blk_drewN ?_ _ | refine blk_drew ?_ | refine blk_alloc ?_ _)); refine blk_far ?_ NR.out _; (with_reducible repeat (first | refine blk_drewN ?_ _ | refine blk_drew ?_ | refine blk_alloc ?_ _)); exact BR.out); have HB2 := Aside0.mk (show Below w.heap.size w w7 by obtain ⟨nd, rfl⟩ := hdr; repeat (first | (with_reducible first | exact HB.out | apply below_alloc | apply pw_below_drewN | apply below_drew1 | refine below_set ?_ GX.out ) | exact HB.out)); clear hdr; have hd0 : w7.cell? ⟨gx, 0, none⟩ = some (.int .i64 x.f0) := (blk_cell BX2.out 0).trans rfl; clear hcz0 hcz1 hcz2 hfz0 hfz1 hfz2))
              obtain ⟨n, hn⟩ : ∃ n : Nat, x.f1 = (n : Int) := ⟨x.f1.toNat, by have := hin.1; omega⟩
              have hn7 : n < 7 := by have := hin.2; omega
              have htn : x.f1.toNat = n := by omega
              rw [htn] at HS HL1
              rw [hn] at BX2
              have NXs := Aside0.mk NX.out.symm
              have BX3 := Aside0.mk (blk_drew BX2.out)
              have BK3 := Aside0.mk (blk_drew BK2.out)
              have BR3 := Aside0.mk (blk_drew BR2.out)
              have HB3 := Aside0.mk (below_drew1 HB2.out)
              have hp0 : (0 ≤ (n : Int)) = True := eq_true (by omega)
              have hp1 : ((n : Int) < 7) = True := eq_true (by omega)
              have hp2 : decide (0 ≤ (n : Int)) = true := by simp
              have hp3 : decide ((n : Int) < 7) = true := by simp; omega
              refine start_ (n := 10) (S := fun w' => w'.cell? ⟨gx, 1, none⟩ = some (.int .i64 (n : Int)) ∧ w'.cell? ⟨gx, 2, none⟩ = some (.int .u64 x.f2)) (ds := [9]) #[false, false, false, false, false, false, false, false, false, false] (by kernel_rfl) rfl rfl ⟨(blk_cell BX3.out 1).trans rfl, (blk_cell BX3.out 2).trans rfl⟩ (fun hHeld => ?_)
              clear BX2 BK2 BR2 HB2 hd0 hx0 hx1 hx2 hn htn
              generalize w7.drew = w8 at BX3 BK3 BR3 HB3 hHeld ⊢
              refine pure_ (i := 0) (N := some 32) (v := ?_) (a' := ?_) #[true, false, false, false, false, false, false, false, false, false] rfl rfl (by kernel_rfl) (fun _ _ _ h => h) (Or.inl ⟨by rfl, ?_⟩) ?_ ?_
              rotate_left
              · intro w'
                go_simp
                with_reducible rfl
              rotate_left
              · simp only [Act.put, List.setIfInBounds_toArray, List.set_cons_zero, List.set_cons_succ, i64_w, i32_w]
                rfl
              refine pure_ (i := 2) (N := some 34) (v := ?_) (a' := ?_) #[true, false, true, false, false, false, false, false, false, false] rfl rfl (by kernel_rfl) (fun _ _ _ h => h) (Or.inl ⟨by rfl, ?_⟩) ?_ ?_
              rotate_left
              · intro w'
                go_simp
                with_reducible rfl
              rotate_left
              · simp only [Act.put, List.setIfInBounds_toArray, List.set_cons_zero, List.set_cons_succ, i64_w, i32_w]
                rfl
              refine take_ (i := 3) (N := some 35) (v := ?_) (a' := ?_) #[true, false, true, true, false, false, false, false, false, false] rfl rfl (by kernel_rfl) (fun _ _ _ h => h) (Or.inl ⟨by rfl, ?_⟩) hHeld ?_ ?_
              rotate_left
              · rintro w' ⟨s0, s1⟩
                go_simp
                with_reducible rfl
              rotate_left
              · simp only [Act.put, List.setIfInBounds_toArray, List.set_cons_zero, List.set_cons_succ, i64_w, i32_w]
                rfl
              refine pure_ (i := 6) (N := some 38) (v := ?_) (a' := ?_) #[true, false, true, true, false, false, true, false, false, false] rfl rfl (by kernel_rfl) (fun _ _ _ h => h) (Or.inl ⟨by rfl, ?_⟩) ?_ ?_
              rotate_left
              · intro w'
                go_simp
                with_reducible rfl
              rotate_left
              · simp only [Act.put, List.setIfInBounds_toArray, List.set_cons_zero, List.set_cons_succ, i64_w, i32_w]
                rfl
              refine take_ (i := 7) (N := some 39) (v := ?_) (a' := ?_) #[true, false, true, true, false, false, true, true, false, false] rfl rfl (by kernel_rfl) (fun _ _ _ h => h) (Or.inl ⟨by rfl, ?_⟩) hHeld ?_ ?_
              rotate_left
              · rintro w' ⟨s0, s1⟩
                go_simp
                with_reducible rfl
              rotate_left
              · simp only [Act.put, List.setIfInBounds_toArray, List.set_cons_zero, List.set_cons_succ, i64_w, i32_w]
                rfl
              refine one_ (i := 1) (N := some 33) #[true, true, true, true, false, false, true, true, false, false] rfl rfl (by kernel_rfl) (by decide) (fun K hK => ?_)
              refine goes_ Try.func55 (by kernel_rfl) rfl #[.pointer (some ⟨gb, 7, none⟩)] (by rfl) rfl rfl (by (try simp only [List.map_toArray, List.map_cons, List.map_nil]); first | done | rfl) ?_
              refine (words_calls gb 7 _).mono ?_
              rintro e w9 ⟨gw, rfl, hwd, hge, hb3⟩
              refine ⟨_, rfl, ?_⟩
              have BX4 := Aside0.mk (blk_below BX3.out hb3)
              have BK4 := Aside0.mk (blk_below BK3.out hb3)
              have BR4 := Aside0.mk (blk_below BR3.out hb3)
              have HB4 := Aside0.mk (below_step HB3.out hb3)
              have HW := Aside0.mk hwd
              have NW := Aside0.mk (show gb ≠ gw from fun e => by have := blk_lt BK3.out; omega)
              clear hwd hge hb3 BX3 BK3 BR3 HB3 hHeld
              refine hK.out _ _ ⟨(blk_cell BX4.out 1).trans rfl, (blk_cell BX4.out 2).trans rfl⟩ (fun hHeld => ?_)
              clear hK K
              refine norm_ (a' := ?_) ?_ ?_
              rotate_left
              · show Act.put _ (some 33) _ = _
                simp only [Act.put, List.setIfInBounds_toArray, List.set_cons_zero, List.set_cons_succ, i64_w, i32_w]
                rfl
              refine pure_ (i := 4) (N := some 36) (v := ?_) (a' := ?_) #[true, true, true, true, true, false, true, true, false, false] rfl rfl (by kernel_rfl) (fun _ _ _ h => h) (Or.inl ⟨by rfl, ?_⟩) ?_ ?_
              rotate_left
              · intro w'
                go_simp
                with_reducible rfl
              rotate_left
              · simp only [Act.put, List.setIfInBounds_toArray, List.set_cons_zero, List.set_cons_succ, i64_w, i32_w]
                rfl
              have hptr : w9.cell? ⟨gw, n, none⟩ = some (.pointer (some ⟨gb, 7 + n, none⟩)) := by
                refine (blk_cell HW.out n).trans ?_
                rcases n with _ | _ | _ | _ | _ | _ | _ | n
                all_goals first | rfl | omega
              refine one_ (i := 5) (N := some 37) #[true, true, true, true, true, true, true, true, false, false] rfl rfl (by kernel_rfl) (by decide) (fun K hK => ?_)
              refine value_ (w1 := w9) (v := .pointer (some ⟨gb, 7 + n, none⟩)) (by rfl) rfl (by go_simp) ?_
              refine hK.out _ _ hHeld (fun hHeld => ?_)
              clear hK K
              refine norm_ (a' := ?_) ?_ ?_
              rotate_left
              · show Act.put _ (some 37) _ = _
                simp only [Act.put, List.setIfInBounds_toArray, List.set_cons_zero, List.set_cons_succ, i64_w, i32_w]
                rfl
              refine pure_ (i := 8) (N := some 40) (v := ?_) (a' := ?_) #[true, true, true, true, true, true, true, true, true, false] rfl rfl (by kernel_rfl) (fun _ _ _ h => h) (Or.inl ⟨by rfl, ?_⟩) ?_ ?_
              rotate_left
              · intro w'
                go_simp
                with_reducible rfl
              rotate_left
              · simp only [Act.put, List.setIfInBounds_toArray, List.set_cons_zero, List.set_cons_succ, i64_w, i32_w]
                rfl
              refine last_ (i := 9) (N := none) #[true, true, true, true, true, true, true, true, true, true] rfl rfl (by kernel_rfl) (by decide) (fun K hK => ?_)
              have hs : w9.cell? ⟨gb, 7 + n, none⟩ = some (.int .u64 (d.getD (7 + n) 0)) := (blk_cell BK4.out (7 + n)).trans (disk_cell d (7 + n) (by rw [HL.out]; omega))
              have hfs := blk_frozen BK4.out (7 + n)
              refine skip_ (w1 := ?_) (by rfl) rfl ?_ ?_
              rotate_left
              · go_simp
                rfl
              refine hK.out _ _ ?_
              clear hK K
              refine done_ (by kernel_rfl) ?_
              have BK5 := Aside0.mk (blk_put BK4.out (7 + n) (.int .u64 x.f2) (disk_put_cells d (7 + n) x.f2))
              have BR5 := Aside0.mk (blk_far BR4.out (p := ⟨gb, 7 + n, none⟩) NE.out.symm (.int .u64 x.f2))
              have HB5 := Aside0.mk (below_set (j := 7 + n) (v := .int .u64 x.f2) HB4.out GE.out)
              clear hs hfs hptr hHeld BX4 BK4 BR4 HB4 HW
              generalize w9.setCell ⟨gb, 7 + n, none⟩ (.int .u64 x.f2) = w10 at BK5 BR5 HB5 ⊢
              try go_wp2
              go_roundg k1
              case measure => omega
              case rel => exact ⟨j + 1, d.set (7 + n) x.f2, by have := HLEN.out; have := HJ1.out; congr 1; unfold wrap64; omega, HJ1, HKJ1, HS, HL1, ⟨by (with_reducible repeat (first | refine blk_drewN ?_ _ | refine blk_drew ?_ | refine blk_alloc ?_ _)); exact BK5.out⟩, ⟨by (with_reducible repeat (first | refine blk_drewN ?_ _ | refine blk_drew ?_ | refine blk_alloc ?_ _)); exact BR5.out⟩, ⟨by repeat (first | (with_reducible first | exact HB5.out | apply below_alloc | apply pw_below_drewN | apply below_drew1) | exact HB5.out)⟩⟩
            · have hstep : disk_step.f d x = d := by unfold disk_step.f; rw [if_pos hin, if_neg h1, if_neg h2]
              rw [hstep] at HS HL1
              have hb2 : (x.f0 == 2) = false := beq_eq_false_iff_ne.mpr h2
              clear hstep
              go_wp2_with (first | ((with_reducible refine gate_dst (N := 6) rfl ?_); refine box_event ?hg (N := 6) ?hd (cs := #[.int .i64 0, .int .i64 0, .int .u64 0]) (t := 92) ?hr ?_; (case hd => rfl); (case hg => rfl); (case hr => first | (go_simp; done) | (go_simp; rfl)); intro gx hg w6 hbox hb; have BK1_ := BK1; have BR_ := BR; have BK1 := Aside0.mk (blk_below (g := gb) (by (with_reducible repeat (first | refine blk_drewN ?_ _ | refine blk_drew ?_ | refine blk_alloc ?_ _)); exact BK1.out) hb); have BR := Aside0.mk (blk_below (g := gr) (by (with_reducible repeat (first | refine blk_drewN ?_ _ | refine blk_drew ?_ | refine blk_alloc ?_ _)); exact BR.out) hb); have NX := Aside0.mk ((by rw [hg]; exact Nat.ne_of_lt (blk_lt (g := gb) (o := .cells (disk_cells.f d) 38 (0, 0)) (by (with_reducible repeat (first | refine blk_drewN ?_ _ | refine blk_drew ?_ | refine blk_alloc ?_ _)); exact BK1_.out)) : gb ≠ gx)); have NR := Aside0.mk ((by rw [hg]; exact Nat.ne_of_lt (blk_lt (g := gr) (o := .cells #[.int .u64 0, .int .u64 0, .int .u64 0, .int .u64 0, .int .u64 0, .int .u64 0, .int .u64 0, .int .u64 0, .int .u64 0, .int .u64 0, .int .u64 0, .int .u64 0, .int .u64 0, .int .u64 0] 38 (0, 0)) (by (with_reducible repeat (first | refine blk_drewN ?_ _ | refine blk_drew ?_ | refine blk_alloc ?_ _)); exact BR_.out)) : gr ≠ gx)); have GX := Aside0.mk ((by rw [hg]; exact (below_size (by repeat (first | (with_reducible first | exact HB.out | apply below_alloc | apply pw_below_drewN | apply below_drew1 ) | exact HB.out))) : w.heap.size ≤ gx)); have HB := Aside0.mk (below_step (by repeat (first | (with_reducible first | exact HB.out | apply below_alloc | apply pw_below_drewN | apply below_drew1 ) | exact HB.out)) hb); have BX := Aside0.mk hbox; clear hbox hb hg; have hnx := NX.out; have hnx2 := NX.out.symm; have hcz0 : w6.cell? ⟨gx, 0, none⟩ = some (.int .i64 0) := (blk_cell BX.out 0).trans rfl; have hfz0 := blk_frozen BX.out 0; have hcz1 : w6.cell? ⟨gx, 1, none⟩ = some (.int .i64 0) := (blk_cell BX.out 1).trans rfl; have hfz1 := blk_frozen BX.out 1; have hcz2 : w6.cell? ⟨gx, 2, none⟩ = some (.int .u64 0) := (blk_cell BX.out 2).trans rfl; have hfz2 := blk_frozen BX.out 2) | ((with_reducible refine gate_callee (f := 60) rfl ?_); refine goesL_ (some 15) rfl rfl Try.func60 (by kernel_rfl) rfl #[.int .i64 x.f1, .int .i64 0, .int .i64 6] rfl (by (try simp only [List.map_toArray, List.map_cons, List.map_nil]); first | done | rfl) ?_; (with_reducible refine (impl_in.calls x.f1 0 6 true _ HI.out).mono ?_); rintro e w7 ⟨rfl, hdr⟩; refine ⟨_, rfl, ?_⟩; have BX2 := Aside0.mk (show w7.heap[gx]? = some (.cells #[.int .i64 x.f0, .int .i64 x.f1, .int .u64 x.f2] 92 (0, 0)) by obtain ⟨nd, rfl⟩ := hdr; (with_reducible repeat (first | refine blk_drewN ?_ _ | refine blk_drew ?_ | refine blk_alloc ?_ _)); refine blk_put (cs := #[.int .i64 x.f0, .int .i64 x.f1, .int .u64 0]) ?_ 2 _ rfl; (with_reducible repeat (first | refine blk_drewN ?_ _ | refine blk_drew ?_ | refine blk_alloc ?_ _)); refine blk_put (cs := #[.int .i64 x.f0, .int .i64 0, .int .u64 0]) ?_ 1 _ rfl; (with_reducible repeat (first | refine blk_drewN ?_ _ | refine blk_drew ?_ | refine blk_alloc ?_ _)); refine blk_put (cs := #[.int .i64 0, .int .i64 0, .int .u64 0]) ?_ 0 _ rfl; (with_reducible repeat (first | refine blk_drewN ?_ _ | refine blk_drew ?_ | refine blk_alloc ?_ _)); exact BX.out); have BK2 := Aside0.mk (show w7.heap[gb]? = some (.cells (disk_cells.f d) 38 (0, 0)) by obtain ⟨nd, rfl⟩ := hdr; (with_reducible repeat (first | refine blk_drewN ?_ _ | refine blk_drew ?_ | refine blk_alloc ?_ _)); refine blk_far ?_ NX.out _; (with_reducible repeat (first | refine blk_drewN ?_ _ | refine blk_drew ?_ | refine blk_alloc ?_ _)); refine blk_far ?_ NX.out _; (with_reducible repeat (first | refine blk_drewN ?_ _ | refine blk_drew ?_ | refine blk_alloc ?_ _)); refine blk_far ?_ NX.out _; (with_reducible repeat (first | refine blk_drewN ?_ _ | refine blk_drew ?_ | refine blk_alloc ?_ _)); exact BK1.out); have BR2 := Aside0.mk (show w7.heap[gr]? = some (.cells #[.int .u64 0, .int .u64 0, .int .u64 0, .int .u64 0, .int .u64 0, .int .u64 0, .int .u64 0, .int .u64 0, .int .u64 0, .int .u64 0, .int .u64 0, .int .u64 0, .int .u64 0, .int .u64 0] 38 (0, 0)) by obtain ⟨nd, rfl⟩ := hdr; (with_reducible repeat (first | refine blk_drewN ?_ _ | refine blk_drew ?_ | refine blk_alloc ?_ _)); refine blk_far ?_ NR.out _; (with_reducible repeat (first | refine blk_drewN ?_ _ | refine blk_drew ?_ | refine blk_alloc ?_ _)); refine blk_far ?_ NR.out _; (with_reducible repeat (first | refine blk_drewN ?_ _ | refine blk_drew ?_ | refine blk_alloc ?_ _)); refine blk_far ?_ NR.out _; (with_reducible repeat (first | refine blk_drewN ?_ _ | refine blk_drew ?_ | refine blk_alloc ?_ _)); exact BR.out); have HB2 := Aside0.mk (show Below w.heap.size w w7 by obtain ⟨nd, rfl⟩ := hdr; repeat (first | (with_reducible first | exact HB.out | apply below_alloc | apply pw_below_drewN | apply below_drew1 | refine below_set ?_ GX.out ) | exact HB.out)); clear hdr; have hd0 : w7.cell? ⟨gx, 0, none⟩ = some (.int .i64 x.f0) := (blk_cell BX2.out 0).trans rfl; clear hcz0 hcz1 hcz2 hfz0 hfz1 hfz2))
              go_roundg k1
              case measure => omega
              case rel => exact ⟨j + 1, d, by have := HLEN.out; have := HJ1.out; congr 1; unfold wrap64; omega, HJ1, HKJ1, HS, HL1, ⟨by (with_reducible repeat (first | refine blk_drewN ?_ _ | refine blk_drew ?_ | refine blk_alloc ?_ _)); exact BK2.out⟩, ⟨by (with_reducible repeat (first | refine blk_drewN ?_ _ | refine blk_drew ?_ | refine blk_alloc ?_ _)); exact BR2.out⟩, ⟨by repeat (first | (with_reducible first | exact HB2.out | apply below_alloc | apply pw_below_drewN | apply below_drew1) | exact HB2.out)⟩⟩
        · have HI := Aside0.mk (show impl_in.f x.f1 0 6 = some false by unfold impl_in.f; split; (· rw [decide_eq_false (fun h => hin ⟨by assumption, h⟩)]); rfl)
          have hstep : disk_step.f d x = d := by unfold disk_step.f; rw [if_neg hin]
          rw [hstep] at HS HL1
          clear hstep
          go_wp2_with (first | ((with_reducible refine gate_dst (N := 6) rfl ?_); refine box_event ?hg (N := 6) ?hd (cs := #[.int .i64 0, .int .i64 0, .int .u64 0]) (t := 92) ?hr ?_; (case hd => rfl); (case hg => rfl); (case hr => first | (go_simp; done) | (go_simp; rfl)); intro gx hg w6 hbox hb; have BK1_ := BK1; have BR_ := BR; have BK1 := Aside0.mk (blk_below (g := gb) (by (with_reducible repeat (first | refine blk_drewN ?_ _ | refine blk_drew ?_ | refine blk_alloc ?_ _)); exact BK1.out) hb); have BR := Aside0.mk (blk_below (g := gr) (by (with_reducible repeat (first | refine blk_drewN ?_ _ | refine blk_drew ?_ | refine blk_alloc ?_ _)); exact BR.out) hb); have NX := Aside0.mk ((by rw [hg]; exact Nat.ne_of_lt (blk_lt (g := gb) (o := .cells (disk_cells.f d) 38 (0, 0)) (by (with_reducible repeat (first | refine blk_drewN ?_ _ | refine blk_drew ?_ | refine blk_alloc ?_ _)); exact BK1_.out)) : gb ≠ gx)); have NR := Aside0.mk ((by rw [hg]; exact Nat.ne_of_lt (blk_lt (g := gr) (o := .cells #[.int .u64 0, .int .u64 0, .int .u64 0, .int .u64 0, .int .u64 0, .int .u64 0, .int .u64 0, .int .u64 0, .int .u64 0, .int .u64 0, .int .u64 0, .int .u64 0, .int .u64 0, .int .u64 0] 38 (0, 0)) (by (with_reducible repeat (first | refine blk_drewN ?_ _ | refine blk_drew ?_ | refine blk_alloc ?_ _)); exact BR_.out)) : gr ≠ gx)); have GX := Aside0.mk ((by rw [hg]; exact (below_size (by repeat (first | (with_reducible first | exact HB.out | apply below_alloc | apply pw_below_drewN | apply below_drew1 ) | exact HB.out))) : w.heap.size ≤ gx)); have HB := Aside0.mk (below_step (by repeat (first | (with_reducible first | exact HB.out | apply below_alloc | apply pw_below_drewN | apply below_drew1 ) | exact HB.out)) hb); have BX := Aside0.mk hbox; clear hbox hb hg; have hnx := NX.out; have hnx2 := NX.out.symm; have hcz0 : w6.cell? ⟨gx, 0, none⟩ = some (.int .i64 0) := (blk_cell BX.out 0).trans rfl; have hfz0 := blk_frozen BX.out 0; have hcz1 : w6.cell? ⟨gx, 1, none⟩ = some (.int .i64 0) := (blk_cell BX.out 1).trans rfl; have hfz1 := blk_frozen BX.out 1; have hcz2 : w6.cell? ⟨gx, 2, none⟩ = some (.int .u64 0) := (blk_cell BX.out 2).trans rfl; have hfz2 := blk_frozen BX.out 2) | ((with_reducible refine gate_callee (f := 60) rfl ?_); refine goesL_ (some 15) rfl rfl Try.func60 (by kernel_rfl) rfl #[.int .i64 x.f1, .int .i64 0, .int .i64 6] rfl (by (try simp only [List.map_toArray, List.map_cons, List.map_nil]); first | done | rfl) ?_; (with_reducible refine (impl_in.calls x.f1 0 6 false _ HI.out).mono ?_); rintro e w7 ⟨rfl, hdr⟩; refine ⟨_, rfl, ?_⟩; have BX2 := Aside0.mk (show w7.heap[gx]? = some (.cells #[.int .i64 x.f0, .int .i64 x.f1, .int .u64 x.f2] 92 (0, 0)) by obtain ⟨nd, rfl⟩ := hdr; (with_reducible repeat (first | refine blk_drewN ?_ _ | refine blk_drew ?_ | refine blk_alloc ?_ _)); refine blk_put (cs := #[.int .i64 x.f0, .int .i64 x.f1, .int .u64 0]) ?_ 2 _ rfl; (with_reducible repeat (first | refine blk_drewN ?_ _ | refine blk_drew ?_ | refine blk_alloc ?_ _)); refine blk_put (cs := #[.int .i64 x.f0, .int .i64 0, .int .u64 0]) ?_ 1 _ rfl; (with_reducible repeat (first | refine blk_drewN ?_ _ | refine blk_drew ?_ | refine blk_alloc ?_ _)); refine blk_put (cs := #[.int .i64 0, .int .i64 0, .int .u64 0]) ?_ 0 _ rfl; (with_reducible repeat (first | refine blk_drewN ?_ _ | refine blk_drew ?_ | refine blk_alloc ?_ _)); exact BX.out); have BK2 := Aside0.mk (show w7.heap[gb]? = some (.cells (disk_cells.f d) 38 (0, 0)) by obtain ⟨nd, rfl⟩ := hdr; (with_reducible repeat (first | refine blk_drewN ?_ _ | refine blk_drew ?_ | refine blk_alloc ?_ _)); refine blk_far ?_ NX.out _; (with_reducible repeat (first | refine blk_drewN ?_ _ | refine blk_drew ?_ | refine blk_alloc ?_ _)); refine blk_far ?_ NX.out _; (with_reducible repeat (first | refine blk_drewN ?_ _ | refine blk_drew ?_ | refine blk_alloc ?_ _)); refine blk_far ?_ NX.out _; (with_reducible repeat (first | refine blk_drewN ?_ _ | refine blk_drew ?_ | refine blk_alloc ?_ _)); exact BK1.out); have BR2 := Aside0.mk (show w7.heap[gr]? = some (.cells #[.int .u64 0, .int .u64 0, .int .u64 0, .int .u64 0, .int .u64 0, .int .u64 0, .int .u64 0, .int .u64 0, .int .u64 0, .int .u64 0, .int .u64 0, .int .u64 0, .int .u64 0, .int .u64 0] 38 (0, 0)) by obtain ⟨nd, rfl⟩ := hdr; (with_reducible repeat (first | refine blk_drewN ?_ _ | refine blk_drew ?_ | refine blk_alloc ?_ _)); refine blk_far ?_ NR.out _; (with_reducible repeat (first | refine blk_drewN ?_ _ | refine blk_drew ?_ | refine blk_alloc ?_ _)); refine blk_far ?_ NR.out _; (with_reducible repeat (first | refine blk_drewN ?_ _ | refine blk_drew ?_ | refine blk_alloc ?_ _)); refine blk_far ?_ NR.out _; (with_reducible repeat (first | refine blk_drewN ?_ _ | refine blk_drew ?_ | refine blk_alloc ?_ _)); exact BR.out); have HB2 := Aside0.mk (show Below w.heap.size w w7 by obtain ⟨nd, rfl⟩ := hdr; repeat (first | (with_reducible first | exact HB.out | apply below_alloc | apply pw_below_drewN | apply below_drew1 | refine below_set ?_ GX.out ) | exact HB.out)); clear hdr; have hd0 : w7.cell? ⟨gx, 0, none⟩ = some (.int .i64 x.f0) := (blk_cell BX2.out 0).trans rfl; clear hcz0 hcz1 hcz2 hfz0 hfz1 hfz2))
          go_roundg k1
          case measure => omega
          case rel => exact ⟨j + 1, d, by have := HLEN.out; have := HJ1.out; congr 1; unfold wrap64; omega, HJ1, HKJ1, HS, HL1, ⟨by (with_reducible repeat (first | refine blk_drewN ?_ _ | refine blk_drew ?_ | refine blk_alloc ?_ _)); exact BK2.out⟩, ⟨by (with_reducible repeat (first | refine blk_drewN ?_ _ | refine blk_drew ?_ | refine blk_alloc ?_ _)); exact BR2.out⟩, ⟨by repeat (first | (with_reducible first | exact HB2.out | apply below_alloc | apply pw_below_drewN | apply below_drew1) | exact HB2.out)⟩⟩
      · have hje : j = l1.length := by have := HJ.out; omega
        have q0 : ¬ (j : Int) < (l1.length : Int) := by omega
        have hj1 : decide ((j : Int) < (l1.length : Int)) = false := decide_eq_false q0
        have hj2 : decide (j < l1.length) = false := decide_eq_false hj
        have HF := Aside0.mk (show disk_out.f d = (r1, r2, r3, r4, r5, r6, r7, r8, r9, r10, r11, r12, r13, r14) by have := HD.out; rw [hje, List.take_length] at this; rw [← this]; exact H.out)
        clear hj HD HKJ HJ hje q0
        have HF2 := HF.out
        simp only [disk_out.f, Prod.mk.injEq] at HF2
        obtain ⟨e0, e1, e2, e3, e4, e5, e6, e7, e8, e9, e10, e11, e12, e13⟩ := HF2
        have BKo := Aside0.mk (show wr.heap[gb]? = some (.cells #[.int .u64 r1, .int .u64 r2, .int .u64 r3, .int .u64 r4, .int .u64 r5, .int .u64 r6, .int .u64 r7, .int .u64 r8, .int .u64 r9, .int .u64 r10, .int .u64 r11, .int .u64 r12, .int .u64 r13, .int .u64 r14] 38 (0, 0)) by rw [← e0, ← e1, ← e2, ← e3, ← e4, ← e5, ← e6, ← e7, ← e8, ← e9, ← e10, ← e11, ← e12, ← e13, ← disk_open d HL.out]; exact BK1.out)
        clear e0 e1 e2 e3 e4 e5 e6 e7 e8 e9 e10 e11 e12 e13 HF BK1 HL H
        have hne := NE.out
        have hne2 := NE.out.symm
        have hcz0 : wr.cell? ⟨gb, 0, none⟩ = some (.int .u64 r1) := (blk_cell BKo.out 0).trans rfl
        have hfz0 := blk_frozen BKo.out 0
        have hdz0 : wr.cell? ⟨gr, 0, none⟩ = some (.int .u64 0) := (blk_cell BR.out 0).trans rfl
        have hgz0 := blk_frozen BR.out 0
        have hcz1 : wr.cell? ⟨gb, 1, none⟩ = some (.int .u64 r2) := (blk_cell BKo.out 1).trans rfl
        have hfz1 := blk_frozen BKo.out 1
        have hdz1 : wr.cell? ⟨gr, 1, none⟩ = some (.int .u64 0) := (blk_cell BR.out 1).trans rfl
        have hgz1 := blk_frozen BR.out 1
        have hcz2 : wr.cell? ⟨gb, 2, none⟩ = some (.int .u64 r3) := (blk_cell BKo.out 2).trans rfl
        have hfz2 := blk_frozen BKo.out 2
        have hdz2 : wr.cell? ⟨gr, 2, none⟩ = some (.int .u64 0) := (blk_cell BR.out 2).trans rfl
        have hgz2 := blk_frozen BR.out 2
        have hcz3 : wr.cell? ⟨gb, 3, none⟩ = some (.int .u64 r4) := (blk_cell BKo.out 3).trans rfl
        have hfz3 := blk_frozen BKo.out 3
        have hdz3 : wr.cell? ⟨gr, 3, none⟩ = some (.int .u64 0) := (blk_cell BR.out 3).trans rfl
        have hgz3 := blk_frozen BR.out 3
        have hcz4 : wr.cell? ⟨gb, 4, none⟩ = some (.int .u64 r5) := (blk_cell BKo.out 4).trans rfl
        have hfz4 := blk_frozen BKo.out 4
        have hdz4 : wr.cell? ⟨gr, 4, none⟩ = some (.int .u64 0) := (blk_cell BR.out 4).trans rfl
        have hgz4 := blk_frozen BR.out 4
        have hcz5 : wr.cell? ⟨gb, 5, none⟩ = some (.int .u64 r6) := (blk_cell BKo.out 5).trans rfl
        have hfz5 := blk_frozen BKo.out 5
        have hdz5 : wr.cell? ⟨gr, 5, none⟩ = some (.int .u64 0) := (blk_cell BR.out 5).trans rfl
        have hgz5 := blk_frozen BR.out 5
        have hcz6 : wr.cell? ⟨gb, 6, none⟩ = some (.int .u64 r7) := (blk_cell BKo.out 6).trans rfl
        have hfz6 := blk_frozen BKo.out 6
        have hdz6 : wr.cell? ⟨gr, 6, none⟩ = some (.int .u64 0) := (blk_cell BR.out 6).trans rfl
        have hgz6 := blk_frozen BR.out 6
        have hcz7 : wr.cell? ⟨gb, 7, none⟩ = some (.int .u64 r8) := (blk_cell BKo.out 7).trans rfl
        have hfz7 := blk_frozen BKo.out 7
        have hdz7 : wr.cell? ⟨gr, 7, none⟩ = some (.int .u64 0) := (blk_cell BR.out 7).trans rfl
        have hgz7 := blk_frozen BR.out 7
        have hcz8 : wr.cell? ⟨gb, 8, none⟩ = some (.int .u64 r9) := (blk_cell BKo.out 8).trans rfl
        have hfz8 := blk_frozen BKo.out 8
        have hdz8 : wr.cell? ⟨gr, 8, none⟩ = some (.int .u64 0) := (blk_cell BR.out 8).trans rfl
        have hgz8 := blk_frozen BR.out 8
        have hcz9 : wr.cell? ⟨gb, 9, none⟩ = some (.int .u64 r10) := (blk_cell BKo.out 9).trans rfl
        have hfz9 := blk_frozen BKo.out 9
        have hdz9 : wr.cell? ⟨gr, 9, none⟩ = some (.int .u64 0) := (blk_cell BR.out 9).trans rfl
        have hgz9 := blk_frozen BR.out 9
        have hcz10 : wr.cell? ⟨gb, 10, none⟩ = some (.int .u64 r11) := (blk_cell BKo.out 10).trans rfl
        have hfz10 := blk_frozen BKo.out 10
        have hdz10 : wr.cell? ⟨gr, 10, none⟩ = some (.int .u64 0) := (blk_cell BR.out 10).trans rfl
        have hgz10 := blk_frozen BR.out 10
        have hcz11 : wr.cell? ⟨gb, 11, none⟩ = some (.int .u64 r12) := (blk_cell BKo.out 11).trans rfl
        have hfz11 := blk_frozen BKo.out 11
        have hdz11 : wr.cell? ⟨gr, 11, none⟩ = some (.int .u64 0) := (blk_cell BR.out 11).trans rfl
        have hgz11 := blk_frozen BR.out 11
        have hcz12 : wr.cell? ⟨gb, 12, none⟩ = some (.int .u64 r13) := (blk_cell BKo.out 12).trans rfl
        have hfz12 := blk_frozen BKo.out 12
        have hdz12 : wr.cell? ⟨gr, 12, none⟩ = some (.int .u64 0) := (blk_cell BR.out 12).trans rfl
        have hgz12 := blk_frozen BR.out 12
        have hcz13 : wr.cell? ⟨gb, 13, none⟩ = some (.int .u64 r14) := (blk_cell BKo.out 13).trans rfl
        have hfz13 := blk_frozen BKo.out 13
        have hdz13 : wr.cell? ⟨gr, 13, none⟩ = some (.int .u64 0) := (blk_cell BR.out 13).trans rfl
        have hgz13 := blk_frozen BR.out 13
        go_wp2
        refine bodyPost_ret (results_cell_row rfl _ _ gr 38 #[.int .u64 r1, .int .u64 r2, .int .u64 r3, .int .u64 r4, .int .u64 r5, .int .u64 r6, .int .u64 r7, .int .u64 r8, .int .u64 r9, .int .u64 r10, .int .u64 r11, .int .u64 r12, .int .u64 r13, .int .u64 r14] (0, 0) _ rfl ?hblk Try.underlying38 rfl (by kernel_rfl)) rfl ?_
        case hblk => (with_reducible repeat (first | refine blk_drewN ?_ _ | refine blk_drew ?_ | refine blk_alloc ?_ _)); refine blk_put (cs := #[.int .u64 r1, .int .u64 r2, .int .u64 r3, .int .u64 r4, .int .u64 r5, .int .u64 r6, .int .u64 r7, .int .u64 r8, .int .u64 r9, .int .u64 r10, .int .u64 r11, .int .u64 r12, .int .u64 r13, .int .u64 0]) ?_ 13 _ rfl; (with_reducible repeat (first | refine blk_drewN ?_ _ | refine blk_drew ?_ | refine blk_alloc ?_ _)); refine blk_put (cs := #[.int .u64 r1, .int .u64 r2, .int .u64 r3, .int .u64 r4, .int .u64 r5, .int .u64 r6, .int .u64 r7, .int .u64 r8, .int .u64 r9, .int .u64 r10, .int .u64 r11, .int .u64 r12, .int .u64 0, .int .u64 0]) ?_ 12 _ rfl; (with_reducible repeat (first | refine blk_drewN ?_ _ | refine blk_drew ?_ | refine blk_alloc ?_ _)); refine blk_put (cs := #[.int .u64 r1, .int .u64 r2, .int .u64 r3, .int .u64 r4, .int .u64 r5, .int .u64 r6, .int .u64 r7, .int .u64 r8, .int .u64 r9, .int .u64 r10, .int .u64 r11, .int .u64 0, .int .u64 0, .int .u64 0]) ?_ 11 _ rfl; (with_reducible repeat (first | refine blk_drewN ?_ _ | refine blk_drew ?_ | refine blk_alloc ?_ _)); refine blk_put (cs := #[.int .u64 r1, .int .u64 r2, .int .u64 r3, .int .u64 r4, .int .u64 r5, .int .u64 r6, .int .u64 r7, .int .u64 r8, .int .u64 r9, .int .u64 r10, .int .u64 0, .int .u64 0, .int .u64 0, .int .u64 0]) ?_ 10 _ rfl; (with_reducible repeat (first | refine blk_drewN ?_ _ | refine blk_drew ?_ | refine blk_alloc ?_ _)); refine blk_put (cs := #[.int .u64 r1, .int .u64 r2, .int .u64 r3, .int .u64 r4, .int .u64 r5, .int .u64 r6, .int .u64 r7, .int .u64 r8, .int .u64 r9, .int .u64 0, .int .u64 0, .int .u64 0, .int .u64 0, .int .u64 0]) ?_ 9 _ rfl; (with_reducible repeat (first | refine blk_drewN ?_ _ | refine blk_drew ?_ | refine blk_alloc ?_ _)); refine blk_put (cs := #[.int .u64 r1, .int .u64 r2, .int .u64 r3, .int .u64 r4, .int .u64 r5, .int .u64 r6, .int .u64 r7, .int .u64 r8, .int .u64 0, .int .u64 0, .int .u64 0, .int .u64 0, .int .u64 0, .int .u64 0]) ?_ 8 _ rfl; (with_reducible repeat (first | refine blk_drewN ?_ _ | refine blk_drew ?_ | refine blk_alloc ?_ _)); refine blk_put (cs := #[.int .u64 r1, .int .u64 r2, .int .u64 r3, .int .u64 r4, .int .u64 r5, .int .u64 r6, .int .u64 r7, .int .u64 0, .int .u64 0, .int .u64 0, .int .u64 0, .int .u64 0, .int .u64 0, .int .u64 0]) ?_ 7 _ rfl; (with_reducible repeat (first | refine blk_drewN ?_ _ | refine blk_drew ?_ | refine blk_alloc ?_ _)); refine blk_put (cs := #[.int .u64 r1, .int .u64 r2, .int .u64 r3, .int .u64 r4, .int .u64 r5, .int .u64 r6, .int .u64 0, .int .u64 0, .int .u64 0, .int .u64 0, .int .u64 0, .int .u64 0, .int .u64 0, .int .u64 0]) ?_ 6 _ rfl; (with_reducible repeat (first | refine blk_drewN ?_ _ | refine blk_drew ?_ | refine blk_alloc ?_ _)); refine blk_put (cs := #[.int .u64 r1, .int .u64 r2, .int .u64 r3, .int .u64 r4, .int .u64 r5, .int .u64 0, .int .u64 0, .int .u64 0, .int .u64 0, .int .u64 0, .int .u64 0, .int .u64 0, .int .u64 0, .int .u64 0]) ?_ 5 _ rfl; (with_reducible repeat (first | refine blk_drewN ?_ _ | refine blk_drew ?_ | refine blk_alloc ?_ _)); refine blk_put (cs := #[.int .u64 r1, .int .u64 r2, .int .u64 r3, .int .u64 r4, .int .u64 0, .int .u64 0, .int .u64 0, .int .u64 0, .int .u64 0, .int .u64 0, .int .u64 0, .int .u64 0, .int .u64 0, .int .u64 0]) ?_ 4 _ rfl; (with_reducible repeat (first | refine blk_drewN ?_ _ | refine blk_drew ?_ | refine blk_alloc ?_ _)); refine blk_put (cs := #[.int .u64 r1, .int .u64 r2, .int .u64 r3, .int .u64 0, .int .u64 0, .int .u64 0, .int .u64 0, .int .u64 0, .int .u64 0, .int .u64 0, .int .u64 0, .int .u64 0, .int .u64 0, .int .u64 0]) ?_ 3 _ rfl; (with_reducible repeat (first | refine blk_drewN ?_ _ | refine blk_drew ?_ | refine blk_alloc ?_ _)); refine blk_put (cs := #[.int .u64 r1, .int .u64 r2, .int .u64 0, .int .u64 0, .int .u64 0, .int .u64 0, .int .u64 0, .int .u64 0, .int .u64 0, .int .u64 0, .int .u64 0, .int .u64 0, .int .u64 0, .int .u64 0]) ?_ 2 _ rfl; (with_reducible repeat (first | refine blk_drewN ?_ _ | refine blk_drew ?_ | refine blk_alloc ?_ _)); refine blk_put (cs := #[.int .u64 r1, .int .u64 0, .int .u64 0, .int .u64 0, .int .u64 0, .int .u64 0, .int .u64 0, .int .u64 0, .int .u64 0, .int .u64 0, .int .u64 0, .int .u64 0, .int .u64 0, .int .u64 0]) ?_ 1 _ rfl; (with_reducible repeat (first | refine blk_drewN ?_ _ | refine blk_drew ?_ | refine blk_alloc ?_ _)); refine blk_put (cs := #[.int .u64 0, .int .u64 0, .int .u64 0, .int .u64 0, .int .u64 0, .int .u64 0, .int .u64 0, .int .u64 0, .int .u64 0, .int .u64 0, .int .u64 0, .int .u64 0, .int .u64 0, .int .u64 0]) ?_ 0 _ rfl; (with_reducible repeat (first | refine blk_drewN ?_ _ | refine blk_drew ?_ | refine blk_alloc ?_ _)); exact BR.out
        exact ⟨rfl, by repeat (first | (with_reducible first | exact HB.out | apply below_alloc | apply pw_below_drewN | apply below_drew1 | refine below_set ?_ GR.out ) | exact HB.out)⟩

end Go.Proofs.Ytcgfgodpiobcfaa.R
