/- The walk of functions of the given program: what each computes, as a Lean function, and that the code comes to it. Written by a program of this session's. No condition but each theorem's own. -/
import Derived.Test.YtcgfgodpiobcfaaVD
import Derived.Test.YtcgfgodpiobcfaaVx11
import Derived.Test.YtcgfgodpiobcfaaVx20
import Derived.Test.YtcgfgodpiobcfaaVx22
namespace Go.Proofs.Ytcgfgodpiobcfaa.V
open Go.RowKit Go.Proofs.YtcgfgodpiobcfaaW.PrintWords Go.Proofs.YtcgfgodpiobcfaaW.PrintLast Go.Proofs.YtcgfgodpiobcfaaW.PrintMore
attribute [local go_sem] max2_int min2_int max_two min_two max_three min_three max_four min_four   -- for this text's walks alone
set_option linter.unusedVariables false
set_option linter.unusedSimpArgs false

/-! ### spec_l7Slot: function 65 -/
set_option maxHeartbeats 8000000 in
set_option maxRecDepth 100000 in
theorem spec_l7Slot.calls (k : Nat) (g : Nat) (s0_0 : List Int) (s0_1 : Int) (r1 : Int) (r2 : Int) (r3 : Int) (r4 : Int) (r5 : Int) (r6 : Int) (r7 : Int) (r8 : Int) (w0 w : World) (hI : IsS123 w0 w g s0_0 s0_1) (hB : Below w0.heap.size w0 w) (h : spec_l7Slot.f k s0_0 s0_1 = some (r1, r2, r3, r4, r5, r6, r7, r8)) :
    Calls Try.prog 65 #[.pointer (some ⟨g, 0, none⟩)] w fun e w' => e = .returned (.agg #[.int .u64 r1, .int .u64 r2, .int .u64 r3, .int .u64 r4, .int .u64 r5, .int .u64 r6, .int .u64 r7]) ∧ IsS123 w0 w' g s0_0 r8 ∧ Below w0.heap.size w0 w' ∧ KeepBut w w' g none := by
  have hu30 := Try.underlying30
  have HI0 := Aside0.mk hI
  have HK := Aside0.mk (KeepBut.refl w g none)
  have HL := Aside0.mk hB.size
  clear hI
  have HW0 := Aside0.mk hB.size
  have HB := Aside0.mk hB
  clear hB
  have H : ((spec_l1Rd_pick.f k s0_0 s0_1 6).bind fun bt235 => ((spec_l1Rd_pick.f k s0_0 bt235.2 20).bind fun bt237 => ((spec_l1Rd_digest.f k s0_0 bt237.2).bind fun bt239 => ((spec_l1Rd_pick.f k s0_0 bt239.2.2.2.2 14).bind fun bt245 => (if bt245.1 = 0 then ((spec_l1Rd_pick.f k s0_0 bt245.2 3).bind fun bt247 => (spec_l7Slot.j0 k bt245.1 s0_0 bt247.2 0 (IntKind.u64.wrap (wrap64 (999999999 + bt247.1))) (IntKind.u64.wrap (wrap64 (1 + bt237.1))) bt239.1 bt239.2.1 bt239.2.2.1 bt239.2.2.2.1)) else (spec_l7Slot.j0 k bt245.1 s0_0 bt245.2 0 (IntKind.u64.wrap (wrap64 (1 + bt235.1))) (IntKind.u64.wrap (wrap64 (1 + bt237.1))) bt239.1 bt239.2.1 bt239.2.2.1 bt239.2.2.2.1)))))) = some (r1, r2, r3, r4, r5, r6, r7, r8) := h
  clear h
  replace H := Option.bind_eq_some_iff.mp H
  obtain ⟨⟨t235, t236⟩, A20, H⟩ := H
  replace H : ((spec_l1Rd_pick.f k s0_0 t236 20).bind fun bt237 => ((spec_l1Rd_digest.f k s0_0 bt237.2).bind fun bt239 => ((spec_l1Rd_pick.f k s0_0 bt239.2.2.2.2 14).bind fun bt245 => (if bt245.1 = 0 then ((spec_l1Rd_pick.f k s0_0 bt245.2 3).bind fun bt247 => (spec_l7Slot.j0 k bt245.1 s0_0 bt247.2 0 (IntKind.u64.wrap (wrap64 (999999999 + bt247.1))) (IntKind.u64.wrap (wrap64 (1 + bt237.1))) bt239.1 bt239.2.1 bt239.2.2.1 bt239.2.2.2.1)) else (spec_l7Slot.j0 k bt245.1 s0_0 bt245.2 0 (IntKind.u64.wrap (wrap64 (1 + t235))) (IntKind.u64.wrap (wrap64 (1 + bt237.1))) bt239.1 bt239.2.1 bt239.2.2.1 bt239.2.2.2.1))))) = some (r1, r2, r3, r4, r5, r6, r7, r8) := H
  have A2 := Aside0.mk A20
  clear A20
  replace H := Option.bind_eq_some_iff.mp H
  obtain ⟨⟨t237, t238⟩, A30, H⟩ := H
  replace H : ((spec_l1Rd_digest.f k s0_0 t238).bind fun bt239 => ((spec_l1Rd_pick.f k s0_0 bt239.2.2.2.2 14).bind fun bt245 => (if bt245.1 = 0 then ((spec_l1Rd_pick.f k s0_0 bt245.2 3).bind fun bt247 => (spec_l7Slot.j0 k bt245.1 s0_0 bt247.2 0 (IntKind.u64.wrap (wrap64 (999999999 + bt247.1))) (IntKind.u64.wrap (wrap64 (1 + t237))) bt239.1 bt239.2.1 bt239.2.2.1 bt239.2.2.2.1)) else (spec_l7Slot.j0 k bt245.1 s0_0 bt245.2 0 (IntKind.u64.wrap (wrap64 (1 + t235))) (IntKind.u64.wrap (wrap64 (1 + t237))) bt239.1 bt239.2.1 bt239.2.2.1 bt239.2.2.2.1)))) = some (r1, r2, r3, r4, r5, r6, r7, r8) := H
  have A3 := Aside0.mk A30
  clear A30
  replace H := Option.bind_eq_some_iff.mp H
  obtain ⟨⟨t239, t240, t241, t242, t243⟩, A40, H⟩ := H
  replace H : ((spec_l1Rd_pick.f k s0_0 t243 14).bind fun bt245 => (if bt245.1 = 0 then ((spec_l1Rd_pick.f k s0_0 bt245.2 3).bind fun bt247 => (spec_l7Slot.j0 k bt245.1 s0_0 bt247.2 0 (IntKind.u64.wrap (wrap64 (999999999 + bt247.1))) (IntKind.u64.wrap (wrap64 (1 + t237))) t239 t240 t241 t242)) else (spec_l7Slot.j0 k bt245.1 s0_0 bt245.2 0 (IntKind.u64.wrap (wrap64 (1 + t235))) (IntKind.u64.wrap (wrap64 (1 + t237))) t239 t240 t241 t242))) = some (r1, r2, r3, r4, r5, r6, r7, r8) := H
  have A4 := Aside0.mk A40
  clear A40
  replace H := Option.bind_eq_some_iff.mp H
  obtain ⟨⟨t245, t246⟩, A50, H⟩ := H
  replace H : (if t245 = 0 then ((spec_l1Rd_pick.f k s0_0 t246 3).bind fun bt247 => (spec_l7Slot.j0 k t245 s0_0 bt247.2 0 (IntKind.u64.wrap (wrap64 (999999999 + bt247.1))) (IntKind.u64.wrap (wrap64 (1 + t237))) t239 t240 t241 t242)) else (spec_l7Slot.j0 k t245 s0_0 t246 0 (IntKind.u64.wrap (wrap64 (1 + t235))) (IntKind.u64.wrap (wrap64 (1 + t237))) t239 t240 t241 t242)) = some (r1, r2, r3, r4, r5, r6, r7, r8) := H
  have A5 := Aside0.mk A50
  clear A50
  have HC6 := Aside0.mk H
  clear H
  go_enter Try.func65, Try.ntmps65
  go_upto_if 20 with (first | ((with_reducible refine gate_dst (N := 2) rfl ?_); refine box_event ?hg (N := 2) ?hd (cs := #[.int .u64 0, .int .u64 0, .int .u64 0, .int .u64 0, .int .u64 0, .int .u64 0, .int .u64 0]) (t := 30) ?hr ?_; (case hd => rfl); (case hg => rfl); (case hr => first | (go_simp; done) | (go_simp; rfl)); intro gb234 hg w7 hbox hb; have n0_ := Aside0.mk (IsS123.below (by repeat (first | (with_reducible first | exact HI0.out | apply IsS123.alloc | apply IsS123.drewN | apply IsS123.drew | apply IsS123.set_1) | exact HI0.out)) hb); have n1_ := Aside0.mk (KeepBut.trans (by repeat (first | (with_reducible first | exact HK.out | apply KeepBut.set_ | apply keep_drewN | apply keep_drew | apply keep_alloc) | exact HK.out)) (KeepBut.of_below hb g none) (.inl rfl)); have n2_ := Aside0.mk (below_step (by repeat (first | (with_reducible first | exact HB.out | apply below_alloc | apply pw_below_drewN | apply below_drew1 | refine below_set ?_ (IsS123.ge HI0.out)) | exact HB.out)) hb); have n3_ := Aside0.mk (hbox); have n4_ := Aside0.mk ((by rw [hg]; exact (keep_size (w := w) (g := g) (row := none) (by repeat (first | (with_reducible first | exact HK.out | apply KeepBut.set_ | apply keep_drewN | apply keep_drew | apply keep_alloc) | exact HK.out))) : w.heap.size ≤ gb234)); have n5_ := Aside0.mk ((Nat.le_trans HW0.out (by rw [hg]; exact (keep_size (w := w) (g := g) (row := none) (by repeat (first | (with_reducible first | exact HK.out | apply KeepBut.set_ | apply keep_drewN | apply keep_drew | apply keep_alloc) | exact HK.out))) : w.heap.size ≤ gb234) : w0.heap.size ≤ gb234)); have n6_ := Aside0.mk ((by rw [hg]; exact Nat.ne_of_lt (IsS123.lt (show IsS123 w0 _ g s0_0 s0_1 from by repeat (first | (with_reducible first | exact HI0.out | apply IsS123.alloc | apply IsS123.drewN | apply IsS123.drew | apply IsS123.set_1) | exact HI0.out))) : g ≠ gb234)); have n7_ := Aside0.mk ((by rw [hg]; exact Nat.ne_of_gt (IsS123.lt (show IsS123 w0 _ g s0_0 s0_1 from by repeat (first | (with_reducible first | exact HI0.out | apply IsS123.alloc | apply IsS123.drewN | apply IsS123.drew | apply IsS123.set_1) | exact HI0.out))) : gb234 ≠ g)); clear HI0; clear HK; clear HB; have HI0 := n0_; have HK := n1_; have HB := n2_; have BK234 := n3_; have GW234 := n4_; have GE234 := n5_; have NB0_234 := n6_; have NB234_0 := n7_; clear n0_ n1_ n2_ n3_ n4_ n5_ n6_ n7_; clear hb hbox hg) | ((with_reducible refine gate_callee (f := 73) rfl ?_); refine goesL_ (some 7) rfl rfl Try.func73 (by kernel_rfl) rfl #[.pointer (some ⟨g, 0, none⟩), .int .i64 6] rfl (by (try simp only [List.map_toArray, List.map_cons, List.map_nil]); first | done | rfl | (simp only [List.length_drop, List.length_take]; rfl)) ?_; (with_reducible refine (spec_l1Rd_pick.calls k g s0_0 s0_1 6 t235 t236 w0 _ ?side1 ?side2 A2.out).mono ?_); (case side1 => repeat (first | (with_reducible first | exact HI0.out | apply IsS123.alloc | apply IsS123.drewN | apply IsS123.drew | apply IsS123.set_1 | refine IsS123.far ?_ NB0_234.out _) | exact HI0.out)); (case side2 => repeat (first | (with_reducible first | exact HB.out | apply below_alloc | apply pw_below_drewN | apply below_drew1 | refine below_set ?_ (IsS123.ge HI0.out) | refine below_set ?_ GE234.out) | exact HB.out)); rintro e w8 ⟨rfl, hi, hb, hk⟩; refine ⟨_, rfl, ?_⟩; have n0_ := Aside0.mk (KeepBut.blk hk (g' := gb234) (o := .cells #[.int .u64 0, .int .u64 0, .int .u64 0, .int .u64 0, .int .u64 0, .int .u64 0, .int .u64 0] 30 (0, 0)) (by (with_reducible repeat (first | refine blk_drewN ?_ _ | refine blk_drew ?_ | refine blk_alloc ?_ _)); exact BK234.out) NB234_0.out (by simp)); have n1_ := Aside0.mk (KeepBut.trans (by repeat (first | (with_reducible first | exact HK.out | apply KeepBut.set_ | apply keep_drewN | apply keep_drew | apply keep_alloc | refine keep_far ?_ GW234.out _) | exact HK.out)) hk (.inl rfl)); have n2_ := Aside0.mk (hb); have n3_ := Aside0.mk (hi); clear BK234; clear HK; clear HB; clear HI0; have BK234 := n0_; have HK := n1_; have HB := n2_; have HI0 := n3_; clear n0_ n1_ n2_ n3_; (try clear hb); (try clear hb2); (try clear hk); (try clear hi)) | ((with_reducible refine gate_callee (f := 73) rfl ?_); refine goesL_ (some 11) rfl rfl Try.func73 (by kernel_rfl) rfl #[.pointer (some ⟨g, 0, none⟩), .int .i64 20] rfl (by (try simp only [List.map_toArray, List.map_cons, List.map_nil]); first | done | rfl | (simp only [List.length_drop, List.length_take]; rfl)) ?_; (with_reducible refine (spec_l1Rd_pick.calls k g s0_0 t236 20 t237 t238 w0 _ ?side1 ?side2 A3.out).mono ?_); (case side1 => repeat (first | (with_reducible first | exact HI0.out | apply IsS123.alloc | apply IsS123.drewN | apply IsS123.drew | apply IsS123.set_1 | refine IsS123.far ?_ NB0_234.out _) | exact HI0.out)); (case side2 => repeat (first | (with_reducible first | exact HB.out | apply below_alloc | apply pw_below_drewN | apply below_drew1 | refine below_set ?_ (IsS123.ge HI0.out) | refine below_set ?_ GE234.out) | exact HB.out)); rintro e w9 ⟨rfl, hi, hb, hk⟩; refine ⟨_, rfl, ?_⟩; have n0_ := Aside0.mk (KeepBut.blk hk (g' := gb234) (o := .cells #[.int .u64 0, .int .u64 0, .int .u64 0, .int .u64 0, .int .u64 0, .int .u64 0, .int .u64 0] 30 (0, 0)) (by (with_reducible repeat (first | refine blk_drewN ?_ _ | refine blk_drew ?_ | refine blk_alloc ?_ _)); exact BK234.out) NB234_0.out (by simp)); have n1_ := Aside0.mk (KeepBut.trans (by repeat (first | (with_reducible first | exact HK.out | apply KeepBut.set_ | apply keep_drewN | apply keep_drew | apply keep_alloc | refine keep_far ?_ GW234.out _) | exact HK.out)) hk (.inl rfl)); have n2_ := Aside0.mk (hb); have n3_ := Aside0.mk (hi); clear BK234; clear HK; clear HB; clear HI0; have BK234 := n0_; have HK := n1_; have HB := n2_; have HI0 := n3_; clear n0_ n1_ n2_ n3_; (try clear hb); (try clear hb2); (try clear hk); (try clear hi)) | ((with_reducible refine gate_callee (f := 74) rfl ?_); refine goesL_ (some 15) rfl rfl Try.func74 (by kernel_rfl) rfl #[.pointer (some ⟨g, 0, none⟩)] rfl (by (try simp only [List.map_toArray, List.map_cons, List.map_nil]); first | done | rfl | (simp only [List.length_drop, List.length_take]; rfl)) ?_; (with_reducible refine (spec_l1Rd_digest.calls k g s0_0 t238 t239 t240 t241 t242 t243 w0 _ ?side1 ?side2 A4.out).mono ?_); (case side1 => repeat (first | (with_reducible first | exact HI0.out | apply IsS123.alloc | apply IsS123.drewN | apply IsS123.drew | apply IsS123.set_1 | refine IsS123.far ?_ NB0_234.out _) | exact HI0.out)); (case side2 => repeat (first | (with_reducible first | exact HB.out | apply below_alloc | apply pw_below_drewN | apply below_drew1 | refine below_set ?_ (IsS123.ge HI0.out) | refine below_set ?_ GE234.out) | exact HB.out)); rintro e w10 ⟨rfl, hi, hb, hk⟩; refine ⟨_, rfl, ?_⟩; have n0_ := Aside0.mk (KeepBut.blk hk (g' := gb234) (o := .cells #[.int .u64 0, .int .u64 0, .int .u64 0, .int .u64 0, .int .u64 0, .int .u64 0, .int .u64 0] 30 (0, 0)) (by (with_reducible repeat (first | refine blk_drewN ?_ _ | refine blk_drew ?_ | refine blk_alloc ?_ _)); exact BK234.out) NB234_0.out (by simp)); have n1_ := Aside0.mk (KeepBut.trans (by repeat (first | (with_reducible first | exact HK.out | apply KeepBut.set_ | apply keep_drewN | apply keep_drew | apply keep_alloc | refine keep_far ?_ GW234.out _) | exact HK.out)) hk (.inl rfl)); have n2_ := Aside0.mk (hb); have n3_ := Aside0.mk (hi); clear BK234; clear HK; clear HB; clear HI0; have BK234 := n0_; have HK := n1_; have HB := n2_; have HI0 := n3_; clear n0_ n1_ n2_ n3_; (try clear hb); (try clear hb2); (try clear hk); (try clear hi)) | ((with_reducible refine gate_dst (N := 3) rfl ?_); refine box_event ?hg (N := 3) ?hd (cs := #[.int .u64 0, .int .u64 0, .int .u64 0, .int .u64 0, .int .u64 0, .int .u64 0, .int .u64 0]) (t := 30) ?hr ?_; (case hd => rfl); (case hg => rfl); (case hr => first | (go_simp; done) | (go_simp; rfl)); intro gb244 hg w11 hbox hb; have n0_ := Aside0.mk (IsS123.below (by repeat (first | (with_reducible first | exact HI0.out | apply IsS123.alloc | apply IsS123.drewN | apply IsS123.drew | apply IsS123.set_1 | refine IsS123.far ?_ NB0_234.out _) | exact HI0.out)) hb); have n1_ := Aside0.mk (blk_below (g := gb234) (o := .cells #[.int .u64 0, .int .u64 0, .int .u64 0, .int .u64 0, .int .u64 0, .int .u64 0, .int .u64 0] 30 (0, 0)) (by (with_reducible repeat (first | refine blk_drewN ?_ _ | refine blk_drew ?_ | refine blk_alloc ?_ _)); exact BK234.out) hb); have n2_ := Aside0.mk (KeepBut.trans (by repeat (first | (with_reducible first | exact HK.out | apply KeepBut.set_ | apply keep_drewN | apply keep_drew | apply keep_alloc | refine keep_far ?_ GW234.out _) | exact HK.out)) (KeepBut.of_below hb g none) (.inl rfl)); have n3_ := Aside0.mk (below_step (by repeat (first | (with_reducible first | exact HB.out | apply below_alloc | apply pw_below_drewN | apply below_drew1 | refine below_set ?_ (IsS123.ge HI0.out) | refine below_set ?_ GE234.out) | exact HB.out)) hb); have n4_ := Aside0.mk (hbox); have n5_ := Aside0.mk ((by rw [hg]; exact (keep_size (w := w) (g := g) (row := none) (by repeat (first | (with_reducible first | exact HK.out | apply KeepBut.set_ | apply keep_drewN | apply keep_drew | apply keep_alloc | refine keep_far ?_ GW234.out _) | exact HK.out))) : w.heap.size ≤ gb244)); have n6_ := Aside0.mk ((Nat.le_trans HW0.out (by rw [hg]; exact (keep_size (w := w) (g := g) (row := none) (by repeat (first | (with_reducible first | exact HK.out | apply KeepBut.set_ | apply keep_drewN | apply keep_drew | apply keep_alloc | refine keep_far ?_ GW234.out _) | exact HK.out))) : w.heap.size ≤ gb244) : w0.heap.size ≤ gb244)); have n7_ := Aside0.mk ((by rw [hg]; exact Nat.ne_of_lt (blk_lt (g := gb234) (o := .cells #[.int .u64 0, .int .u64 0, .int .u64 0, .int .u64 0, .int .u64 0, .int .u64 0, .int .u64 0] 30 (0, 0)) (by (with_reducible repeat (first | refine blk_drewN ?_ _ | refine blk_drew ?_ | refine blk_alloc ?_ _)); exact BK234.out)) : gb234 ≠ gb244)); have n8_ := Aside0.mk ((by rw [hg]; exact Nat.ne_of_gt (blk_lt (g := gb234) (o := .cells #[.int .u64 0, .int .u64 0, .int .u64 0, .int .u64 0, .int .u64 0, .int .u64 0, .int .u64 0] 30 (0, 0)) (by (with_reducible repeat (first | refine blk_drewN ?_ _ | refine blk_drew ?_ | refine blk_alloc ?_ _)); exact BK234.out)) : gb244 ≠ gb234)); have n9_ := Aside0.mk ((by rw [hg]; exact Nat.ne_of_lt (IsS123.lt (show IsS123 w0 _ g s0_0 t243 from by repeat (first | (with_reducible first | exact HI0.out | apply IsS123.alloc | apply IsS123.drewN | apply IsS123.drew | apply IsS123.set_1 | refine IsS123.far ?_ NB0_234.out _) | exact HI0.out))) : g ≠ gb244)); have n10_ := Aside0.mk ((by rw [hg]; exact Nat.ne_of_gt (IsS123.lt (show IsS123 w0 _ g s0_0 t243 from by repeat (first | (with_reducible first | exact HI0.out | apply IsS123.alloc | apply IsS123.drewN | apply IsS123.drew | apply IsS123.set_1 | refine IsS123.far ?_ NB0_234.out _) | exact HI0.out))) : gb244 ≠ g)); clear HI0; clear BK234; clear HK; clear HB; have HI0 := n0_; have BK234 := n1_; have HK := n2_; have HB := n3_; have BK244 := n4_; have GW244 := n5_; have GE244 := n6_; have NB234_244 := n7_; have NB244_234 := n8_; have NB0_244 := n9_; have NB244_0 := n10_; clear n0_ n1_ n2_ n3_ n4_ n5_ n6_ n7_ n8_ n9_ n10_; clear hb hbox hg; have hnb12 := NB244_234.out; have hnc12 := NB234_244.out; have hnb13 := NB244_0.out; have hnc13 := NB0_244.out; have hcz14_0 : w11.cell? ⟨gb244, 0, none⟩ = some (.int .u64 0) := (blk_cell BK244.out 0).trans rfl; have hcz14_1 : w11.cell? ⟨gb244, 1, none⟩ = some (.int .u64 0) := (blk_cell BK244.out 1).trans rfl; have hcz14_2 : w11.cell? ⟨gb244, 2, none⟩ = some (.int .u64 0) := (blk_cell BK244.out 2).trans rfl; have hcz14_3 : w11.cell? ⟨gb244, 3, none⟩ = some (.int .u64 0) := (blk_cell BK244.out 3).trans rfl; have hcz14_4 : w11.cell? ⟨gb244, 4, none⟩ = some (.int .u64 0) := (blk_cell BK244.out 4).trans rfl; have hcz14_5 : w11.cell? ⟨gb244, 5, none⟩ = some (.int .u64 0) := (blk_cell BK244.out 5).trans rfl; have hcz14_6 : w11.cell? ⟨gb244, 6, none⟩ = some (.int .u64 0) := (blk_cell BK244.out 6).trans rfl; have hfz14_0 := blk_frozen BK244.out 0; have hfz14_1 := blk_frozen BK244.out 1; have hfz14_2 := blk_frozen BK244.out 2; have hfz14_3 := blk_frozen BK244.out 3; have hfz14_4 := blk_frozen BK244.out 4; have hfz14_5 := blk_frozen BK244.out 5; have hfz14_6 := blk_frozen BK244.out 6) | ((with_reducible refine gate_callee (f := 73) rfl ?_); refine goesL_ (some 18) rfl rfl Try.func73 (by kernel_rfl) rfl #[.pointer (some ⟨g, 0, none⟩), .int .i64 14] rfl (by (try simp only [List.map_toArray, List.map_cons, List.map_nil]); first | done | rfl | (simp only [List.length_drop, List.length_take]; rfl)) ?_; (with_reducible refine (spec_l1Rd_pick.calls k g s0_0 t243 14 t245 t246 w0 _ ?side1 ?side2 A5.out).mono ?_); (case side1 => repeat (first | (with_reducible first | exact HI0.out | apply IsS123.alloc | apply IsS123.drewN | apply IsS123.drew | apply IsS123.set_1 | refine IsS123.far ?_ NB0_234.out _ | refine IsS123.far ?_ NB0_244.out _) | exact HI0.out)); (case side2 => repeat (first | (with_reducible first | exact HB.out | apply below_alloc | apply pw_below_drewN | apply below_drew1 | refine below_set ?_ (IsS123.ge HI0.out) | refine below_set ?_ GE234.out | refine below_set ?_ GE244.out) | exact HB.out)); rintro e w15 ⟨rfl, hi, hb, hk⟩; refine ⟨_, rfl, ?_⟩; have n0_ := Aside0.mk (KeepBut.blk hk (g' := gb234) (o := .cells #[.int .u64 0, .int .u64 0, .int .u64 0, .int .u64 0, .int .u64 0, .int .u64 0, .int .u64 0] 30 (0, 0)) (by (with_reducible repeat (first | refine blk_drewN ?_ _ | refine blk_drew ?_ | refine blk_alloc ?_ _)); refine blk_far ?_ NB234_244.out _; (with_reducible repeat (first | refine blk_drewN ?_ _ | refine blk_drew ?_ | refine blk_alloc ?_ _)); refine blk_far ?_ NB234_244.out _; (with_reducible repeat (first | refine blk_drewN ?_ _ | refine blk_drew ?_ | refine blk_alloc ?_ _)); refine blk_far ?_ NB234_244.out _; (with_reducible repeat (first | refine blk_drewN ?_ _ | refine blk_drew ?_ | refine blk_alloc ?_ _)); refine blk_far ?_ NB234_244.out _; (with_reducible repeat (first | refine blk_drewN ?_ _ | refine blk_drew ?_ | refine blk_alloc ?_ _)); refine blk_far ?_ NB234_244.out _; (with_reducible repeat (first | refine blk_drewN ?_ _ | refine blk_drew ?_ | refine blk_alloc ?_ _)); refine blk_far ?_ NB234_244.out _; (with_reducible repeat (first | refine blk_drewN ?_ _ | refine blk_drew ?_ | refine blk_alloc ?_ _)); refine blk_far ?_ NB234_244.out _; (with_reducible repeat (first | refine blk_drewN ?_ _ | refine blk_drew ?_ | refine blk_alloc ?_ _)); exact BK234.out) NB234_0.out (by simp)); have n1_ := Aside0.mk (KeepBut.blk hk (g' := gb244) (o := .cells #[.int .u64 0, .int .u64 (IntKind.u64.wrap (wrap64 (1 + t235))), .int .u64 (IntKind.u64.wrap (wrap64 (1 + t237))), .int .u64 t239, .int .u64 t240, .int .u64 t241, .int .u64 t242] 30 (0, 0)) (by (with_reducible repeat (first | refine blk_drewN ?_ _ | refine blk_drew ?_ | refine blk_alloc ?_ _)); refine blk_put (cs := #[.int .u64 0, .int .u64 (IntKind.u64.wrap (wrap64 (1 + t235))), .int .u64 (IntKind.u64.wrap (wrap64 (1 + t237))), .int .u64 t239, .int .u64 t240, .int .u64 t241, .int .u64 0]) ?_ 6 _ rfl; (with_reducible repeat (first | refine blk_drewN ?_ _ | refine blk_drew ?_ | refine blk_alloc ?_ _)); refine blk_put (cs := #[.int .u64 0, .int .u64 (IntKind.u64.wrap (wrap64 (1 + t235))), .int .u64 (IntKind.u64.wrap (wrap64 (1 + t237))), .int .u64 t239, .int .u64 t240, .int .u64 0, .int .u64 0]) ?_ 5 _ rfl; (with_reducible repeat (first | refine blk_drewN ?_ _ | refine blk_drew ?_ | refine blk_alloc ?_ _)); refine blk_put (cs := #[.int .u64 0, .int .u64 (IntKind.u64.wrap (wrap64 (1 + t235))), .int .u64 (IntKind.u64.wrap (wrap64 (1 + t237))), .int .u64 t239, .int .u64 0, .int .u64 0, .int .u64 0]) ?_ 4 _ rfl; (with_reducible repeat (first | refine blk_drewN ?_ _ | refine blk_drew ?_ | refine blk_alloc ?_ _)); refine blk_put (cs := #[.int .u64 0, .int .u64 (IntKind.u64.wrap (wrap64 (1 + t235))), .int .u64 (IntKind.u64.wrap (wrap64 (1 + t237))), .int .u64 0, .int .u64 0, .int .u64 0, .int .u64 0]) ?_ 3 _ rfl; (with_reducible repeat (first | refine blk_drewN ?_ _ | refine blk_drew ?_ | refine blk_alloc ?_ _)); refine blk_put (cs := #[.int .u64 0, .int .u64 (IntKind.u64.wrap (wrap64 (1 + t235))), .int .u64 0, .int .u64 0, .int .u64 0, .int .u64 0, .int .u64 0]) ?_ 2 _ rfl; (with_reducible repeat (first | refine blk_drewN ?_ _ | refine blk_drew ?_ | refine blk_alloc ?_ _)); refine blk_put (cs := #[.int .u64 0, .int .u64 0, .int .u64 0, .int .u64 0, .int .u64 0, .int .u64 0, .int .u64 0]) ?_ 1 _ rfl; (with_reducible repeat (first | refine blk_drewN ?_ _ | refine blk_drew ?_ | refine blk_alloc ?_ _)); refine blk_put (cs := #[.int .u64 0, .int .u64 0, .int .u64 0, .int .u64 0, .int .u64 0, .int .u64 0, .int .u64 0]) ?_ 0 _ rfl; (with_reducible repeat (first | refine blk_drewN ?_ _ | refine blk_drew ?_ | refine blk_alloc ?_ _)); exact BK244.out) NB244_0.out (by simp)); have n2_ := Aside0.mk (KeepBut.trans (by repeat (first | (with_reducible first | exact HK.out | apply KeepBut.set_ | apply keep_drewN | apply keep_drew | apply keep_alloc | refine keep_far ?_ GW234.out _ | refine keep_far ?_ GW244.out _) | exact HK.out)) hk (.inl rfl)); have n3_ := Aside0.mk (hb); have n4_ := Aside0.mk (hi); clear BK234; clear BK244; clear HK; clear HB; clear HI0; have BK234 := n0_; have BK244 := n1_; have HK := n2_; have HB := n3_; have HI0 := n4_; clear n0_ n1_ n2_ n3_ n4_; (try clear hb); (try clear hb2); (try clear hk); (try clear hi)))
  (try simp only [Act.put, List.setIfInBounds_toArray, List.set_cons_zero, List.set_cons_succ])
  go_cut [] (fun wc => ∃ (kq : Nat) (x1001_5 : Int) (x245001_5 : Int), Aside0 (spec_l7Slot.j0 kq t245 s0_0 x1001_5 0 x245001_5 (IntKind.u64.wrap (wrap64 (1 + t237))) t239 t240 t241 t242 = some (r1, r2, r3, r4, r5, r6, r7, r8)) ∧ Aside0 (kq ≤ k) ∧ Aside0 (wc.heap[gb234]? = some (.cells #[.int .u64 0, .int .u64 0, .int .u64 0, .int .u64 0, .int .u64 0, .int .u64 0, .int .u64 0] 30 (0, 0))) ∧ Aside0 (wc.heap[gb244]? = some (.cells #[.int .u64 0, .int .u64 x245001_5, .int .u64 (IntKind.u64.wrap (wrap64 (1 + t237))), .int .u64 t239, .int .u64 t240, .int .u64 t241, .int .u64 t242] 30 (0, 0))) ∧ Aside0 (IsS123 w0 wc g s0_0 x1001_5) ∧ Aside0 (KeepBut w wc g none) ∧ Aside0 (Below w0.heap.size w0 wc))
  case first =>
    have H := HC6.out
    clear HC6
    by_cases c16 : t245 = 0
    · rw [if_pos c16] at H
      have c16b0 : (t245 == 0) = true := beq_iff_eq.mpr c16
      have c16b1 : (t245 != 0) = false := bne_eq_false_iff_eq.mpr c16
      clear c16
      (first | rw [c16b0] | (simp only [i64_w, i32_w]; rw [c16b0]) | skip)
      replace H := Option.bind_eq_some_iff.mp H
      obtain ⟨⟨t247, t248⟩, A170, H⟩ := H
      replace H : (spec_l7Slot.j0 k t245 s0_0 t248 0 (IntKind.u64.wrap (wrap64 (999999999 + t247))) (IntKind.u64.wrap (wrap64 (1 + t237))) t239 t240 t241 t242) = some (r1, r2, r3, r4, r5, r6, r7, r8) := H
      have A17 := Aside0.mk A170
      clear A170
      have H' := Aside0.mk H
      clear H
      go_wp2_with (first | ((with_reducible refine gate_callee (f := 73) rfl ?_); refine goesL_ (some 22) rfl rfl Try.func73 (by kernel_rfl) rfl #[.pointer (some ⟨g, 0, none⟩), .int .i64 3] rfl (by (try simp only [List.map_toArray, List.map_cons, List.map_nil]); first | done | rfl | (simp only [List.length_drop, List.length_take]; rfl)) ?_; (with_reducible refine (spec_l1Rd_pick.calls k g s0_0 t246 3 t247 t248 w0 _ ?side1 ?side2 A17.out).mono ?_); (case side1 => repeat (first | (with_reducible first | exact HI0.out | apply IsS123.alloc | apply IsS123.drewN | apply IsS123.drew | apply IsS123.set_1 | refine IsS123.far ?_ NB0_234.out _ | refine IsS123.far ?_ NB0_244.out _) | exact HI0.out)); (case side2 => repeat (first | (with_reducible first | exact HB.out | apply below_alloc | apply pw_below_drewN | apply below_drew1 | refine below_set ?_ (IsS123.ge HI0.out) | refine below_set ?_ GE234.out | refine below_set ?_ GE244.out) | exact HB.out)); rintro e w18 ⟨rfl, hi, hb, hk⟩; refine ⟨_, rfl, ?_⟩; have n0_ := Aside0.mk (KeepBut.blk hk (g' := gb234) (o := .cells #[.int .u64 0, .int .u64 0, .int .u64 0, .int .u64 0, .int .u64 0, .int .u64 0, .int .u64 0] 30 (0, 0)) (by (with_reducible repeat (first | refine blk_drewN ?_ _ | refine blk_drew ?_ | refine blk_alloc ?_ _)); exact BK234.out) NB234_0.out (by simp)); have n1_ := Aside0.mk (KeepBut.blk hk (g' := gb244) (o := .cells #[.int .u64 0, .int .u64 (IntKind.u64.wrap (wrap64 (1 + t235))), .int .u64 (IntKind.u64.wrap (wrap64 (1 + t237))), .int .u64 t239, .int .u64 t240, .int .u64 t241, .int .u64 t242] 30 (0, 0)) (by (with_reducible repeat (first | refine blk_drewN ?_ _ | refine blk_drew ?_ | refine blk_alloc ?_ _)); exact BK244.out) NB244_0.out (by simp)); have n2_ := Aside0.mk (KeepBut.trans (by repeat (first | (with_reducible first | exact HK.out | apply KeepBut.set_ | apply keep_drewN | apply keep_drew | apply keep_alloc | refine keep_far ?_ GW234.out _ | refine keep_far ?_ GW244.out _) | exact HK.out)) hk (.inl rfl)); have n3_ := Aside0.mk (hb); have n4_ := Aside0.mk (hi); clear BK234; clear BK244; clear HK; clear HB; clear HI0; have BK234 := n0_; have BK244 := n1_; have HK := n2_; have HB := n3_; have HI0 := n4_; clear n0_ n1_ n2_ n3_ n4_; (try clear hb); (try clear hb2); (try clear hk); (try clear hi); have hnb19 := NB244_234.out; have hnc19 := NB234_244.out; have hnb20 := NB244_0.out; have hnc20 := NB0_244.out; have hcz21_0 : w18.cell? ⟨gb244, 0, none⟩ = some (.int .u64 0) := (blk_cell BK244.out 0).trans rfl; have hcz21_1 : w18.cell? ⟨gb244, 1, none⟩ = some (.int .u64 (IntKind.u64.wrap (wrap64 (1 + t235)))) := (blk_cell BK244.out 1).trans rfl; have hcz21_2 : w18.cell? ⟨gb244, 2, none⟩ = some (.int .u64 (IntKind.u64.wrap (wrap64 (1 + t237)))) := (blk_cell BK244.out 2).trans rfl; have hcz21_3 : w18.cell? ⟨gb244, 3, none⟩ = some (.int .u64 t239) := (blk_cell BK244.out 3).trans rfl; have hcz21_4 : w18.cell? ⟨gb244, 4, none⟩ = some (.int .u64 t240) := (blk_cell BK244.out 4).trans rfl; have hcz21_5 : w18.cell? ⟨gb244, 5, none⟩ = some (.int .u64 t241) := (blk_cell BK244.out 5).trans rfl; have hcz21_6 : w18.cell? ⟨gb244, 6, none⟩ = some (.int .u64 t242) := (blk_cell BK244.out 6).trans rfl; have hfz21_0 := blk_frozen BK244.out 0; have hfz21_1 := blk_frozen BK244.out 1; have hfz21_2 := blk_frozen BK244.out 2; have hfz21_3 := blk_frozen BK244.out 3; have hfz21_4 := blk_frozen BK244.out 4; have hfz21_5 := blk_frozen BK244.out 5; have hfz21_6 := blk_frozen BK244.out 6))
      go_meet
      case rel => exact ⟨_, (t248), (IntKind.u64.wrap (wrap64 (999999999 + t247))), H', ⟨by first | omega | exact Nat.le_refl _⟩, ⟨by (with_reducible repeat (first | refine blk_drewN ?_ _ | refine blk_drew ?_ | refine blk_alloc ?_ _)); refine blk_far ?_ NB234_244.out _; (with_reducible repeat (first | refine blk_drewN ?_ _ | refine blk_drew ?_ | refine blk_alloc ?_ _)); exact BK234.out⟩, ⟨by (with_reducible repeat (first | refine blk_drewN ?_ _ | refine blk_drew ?_ | refine blk_alloc ?_ _)); refine blk_put (cs := #[.int .u64 0, .int .u64 (IntKind.u64.wrap (wrap64 (1 + t235))), .int .u64 (IntKind.u64.wrap (wrap64 (1 + t237))), .int .u64 t239, .int .u64 t240, .int .u64 t241, .int .u64 t242]) ?_ 1 _ rfl; (with_reducible repeat (first | refine blk_drewN ?_ _ | refine blk_drew ?_ | refine blk_alloc ?_ _)); exact BK244.out⟩, ⟨by repeat (first | (with_reducible first | exact HI0.out | apply IsS123.alloc | apply IsS123.drewN | apply IsS123.drew | apply IsS123.set_1 | refine IsS123.far ?_ NB0_234.out _ | refine IsS123.far ?_ NB0_244.out _) | exact HI0.out)⟩, ⟨by repeat (first | (with_reducible first | exact HK.out | apply KeepBut.set_ | apply keep_drewN | apply keep_drew | apply keep_alloc | refine keep_far ?_ GW234.out _ | refine keep_far ?_ GW244.out _) | exact HK.out)⟩, ⟨by repeat (first | (with_reducible first | exact HB.out | apply below_alloc | apply pw_below_drewN | apply below_drew1 | refine below_set ?_ (IsS123.ge HI0.out) | refine below_set ?_ GE234.out | refine below_set ?_ GE244.out) | exact HB.out)⟩⟩
    · rw [if_neg c16] at H
      have c16b0 : (t245 == 0) = false := beq_eq_false_iff_ne.mpr c16
      have c16b1 : (t245 != 0) = true := bne_iff_ne.mpr c16
      (first | rw [c16b0] | (simp only [i64_w, i32_w]; rw [c16b0]) | skip)
      have H' := Aside0.mk H
      clear H
      go_wp2
      go_meet
      case rel => exact ⟨_, (t246), (IntKind.u64.wrap (wrap64 (1 + t235))), H', ⟨by first | omega | exact Nat.le_refl _⟩, ⟨by (with_reducible repeat (first | refine blk_drewN ?_ _ | refine blk_drew ?_ | refine blk_alloc ?_ _)); exact BK234.out⟩, ⟨by (with_reducible repeat (first | refine blk_drewN ?_ _ | refine blk_drew ?_ | refine blk_alloc ?_ _)); exact BK244.out⟩, ⟨by repeat (first | (with_reducible first | exact HI0.out | apply IsS123.alloc | apply IsS123.drewN | apply IsS123.drew | apply IsS123.set_1 | refine IsS123.far ?_ NB0_234.out _ | refine IsS123.far ?_ NB0_244.out _) | exact HI0.out)⟩, ⟨by repeat (first | (with_reducible first | exact HK.out | apply KeepBut.set_ | apply keep_drewN | apply keep_drew | apply keep_alloc | refine keep_far ?_ GW234.out _ | refine keep_far ?_ GW244.out _) | exact HK.out)⟩, ⟨by repeat (first | (with_reducible first | exact HB.out | apply below_alloc | apply pw_below_drewN | apply below_drew1 | refine below_set ?_ (IsS123.ge HI0.out) | refine below_set ?_ GE234.out | refine below_set ?_ GE244.out) | exact HB.out)⟩⟩
  case rest =>
    clear HC6
    try clear c1
    try clear c2
    try clear p2
    try clear c6
    try clear p6
    try clear c7
    try clear c12
    try clear c13
    try clear c16
    try clear c16b0
    try clear c16b1
    try clear c19
    try clear c20
    try clear hcz14_0
    try clear hcz14_1
    try clear hcz14_2
    try clear hcz14_3
    try clear hcz14_4
    try clear hcz14_5
    try clear hcz14_6
    try clear hcz21_0
    try clear hcz21_1
    try clear hcz21_2
    try clear hcz21_3
    try clear hcz21_4
    try clear hcz21_5
    try clear hcz21_6
    try clear hfz14_0
    try clear hfz14_1
    try clear hfz14_2
    try clear hfz14_3
    try clear hfz14_4
    try clear hfz14_5
    try clear hfz14_6
    try clear hfz21_0
    try clear hfz21_1
    try clear hfz21_2
    try clear hfz21_3
    try clear hfz21_4
    try clear hfz21_5
    try clear hfz21_6
    obtain ⟨kq, x1001_5, x245001_5, HA, HJ5, BK234, BK244, HI0, HK, HB⟩ := hcut
    cases kq with
    | zero => exact absurd HA.out (by simp [spec_l7Slot.j0])
    | succ kj5 =>
      have H := HA.out
      clear HA
      simp only [spec_l7Slot.j0] at H
      have HC22 := Aside0.mk H
      clear H
      go_upto_if 27 with (fail)
      go_cut [] (fun wc => ∃ (kq : Nat) (x1001_21 : Int) (x245002_21 : Int), Aside0 (spec_l7Slot.j1 kq t245 s0_0 x1001_21 0 x245001_5 x245002_21 t239 t240 t241 t242 = some (r1, r2, r3, r4, r5, r6, r7, r8)) ∧ Aside0 (kq ≤ kj5) ∧ Aside0 (wc.heap[gb234]? = some (.cells #[.int .u64 0, .int .u64 0, .int .u64 0, .int .u64 0, .int .u64 0, .int .u64 0, .int .u64 0] 30 (0, 0))) ∧ Aside0 (wc.heap[gb244]? = some (.cells #[.int .u64 0, .int .u64 x245001_5, .int .u64 x245002_21, .int .u64 t239, .int .u64 t240, .int .u64 t241, .int .u64 t242] 30 (0, 0))) ∧ Aside0 (IsS123 w0 wc g s0_0 x1001_21) ∧ Aside0 (KeepBut w wc g none) ∧ Aside0 (Below w0.heap.size w0 wc))
      case first =>
        have H := HC22.out
        clear HC22
        by_cases c23 : t245 = 1
        · rw [if_pos c23] at H
          have c23b0 : (t245 == 1) = true := beq_iff_eq.mpr c23
          have c23b1 : (t245 != 1) = false := bne_eq_false_iff_eq.mpr c23
          clear c23
          (first | rw [c23b0] | (simp only [i64_w, i32_w]; rw [c23b0]) | skip)
          replace H := Option.bind_eq_some_iff.mp H
          obtain ⟨⟨t249, t250⟩, A240, H⟩ := H
          replace H : (spec_l7Slot.j1 kj5 t245 s0_0 t250 0 x245001_5 (IntKind.u64.wrap (wrap64 (255 + t249))) t239 t240 t241 t242) = some (r1, r2, r3, r4, r5, r6, r7, r8) := H
          have A24 := Aside0.mk A240
          clear A240
          have H' := Aside0.mk H
          clear H
          go_wp2_with (first | ((with_reducible refine gate_callee (f := 73) rfl ?_); refine goesL_ (some 29) rfl rfl Try.func73 (by kernel_rfl) rfl #[.pointer (some ⟨g, 0, none⟩), .int .i64 3] rfl (by (try simp only [List.map_toArray, List.map_cons, List.map_nil]); first | done | rfl | (simp only [List.length_drop, List.length_take]; rfl)) ?_; (with_reducible refine (spec_l1Rd_pick.calls kj5 g s0_0 x1001_5 3 t249 t250 w0 _ ?side1 ?side2 A24.out).mono ?_); (case side1 => repeat (first | (with_reducible first | exact HI0.out | apply IsS123.alloc | apply IsS123.drewN | apply IsS123.drew | apply IsS123.set_1 | refine IsS123.far ?_ NB0_234.out _ | refine IsS123.far ?_ NB0_244.out _) | exact HI0.out)); (case side2 => repeat (first | (with_reducible first | exact HB.out | apply below_alloc | apply pw_below_drewN | apply below_drew1 | refine below_set ?_ (IsS123.ge HI0.out) | refine below_set ?_ GE234.out | refine below_set ?_ GE244.out) | exact HB.out)); rintro e w25 ⟨rfl, hi, hb, hk⟩; refine ⟨_, rfl, ?_⟩; have n0_ := Aside0.mk (KeepBut.blk hk (g' := gb234) (o := .cells #[.int .u64 0, .int .u64 0, .int .u64 0, .int .u64 0, .int .u64 0, .int .u64 0, .int .u64 0] 30 (0, 0)) (by (with_reducible repeat (first | refine blk_drewN ?_ _ | refine blk_drew ?_ | refine blk_alloc ?_ _)); exact BK234.out) NB234_0.out (by simp)); have n1_ := Aside0.mk (KeepBut.blk hk (g' := gb244) (o := .cells #[.int .u64 0, .int .u64 x245001_5, .int .u64 (IntKind.u64.wrap (wrap64 (1 + t237))), .int .u64 t239, .int .u64 t240, .int .u64 t241, .int .u64 t242] 30 (0, 0)) (by (with_reducible repeat (first | refine blk_drewN ?_ _ | refine blk_drew ?_ | refine blk_alloc ?_ _)); exact BK244.out) NB244_0.out (by simp)); have n2_ := Aside0.mk (KeepBut.trans (by repeat (first | (with_reducible first | exact HK.out | apply KeepBut.set_ | apply keep_drewN | apply keep_drew | apply keep_alloc | refine keep_far ?_ GW234.out _ | refine keep_far ?_ GW244.out _) | exact HK.out)) hk (.inl rfl)); have n3_ := Aside0.mk (hb); have n4_ := Aside0.mk (hi); clear BK234; clear BK244; clear HK; clear HB; clear HI0; have BK234 := n0_; have BK244 := n1_; have HK := n2_; have HB := n3_; have HI0 := n4_; clear n0_ n1_ n2_ n3_ n4_; (try clear hb); (try clear hb2); (try clear hk); (try clear hi); have hnb26 := NB244_234.out; have hnc26 := NB234_244.out; have hnb27 := NB244_0.out; have hnc27 := NB0_244.out; have hcz28_0 : w25.cell? ⟨gb244, 0, none⟩ = some (.int .u64 0) := (blk_cell BK244.out 0).trans rfl; have hcz28_1 : w25.cell? ⟨gb244, 1, none⟩ = some (.int .u64 x245001_5) := (blk_cell BK244.out 1).trans rfl; have hcz28_2 : w25.cell? ⟨gb244, 2, none⟩ = some (.int .u64 (IntKind.u64.wrap (wrap64 (1 + t237)))) := (blk_cell BK244.out 2).trans rfl; have hcz28_3 : w25.cell? ⟨gb244, 3, none⟩ = some (.int .u64 t239) := (blk_cell BK244.out 3).trans rfl; have hcz28_4 : w25.cell? ⟨gb244, 4, none⟩ = some (.int .u64 t240) := (blk_cell BK244.out 4).trans rfl; have hcz28_5 : w25.cell? ⟨gb244, 5, none⟩ = some (.int .u64 t241) := (blk_cell BK244.out 5).trans rfl; have hcz28_6 : w25.cell? ⟨gb244, 6, none⟩ = some (.int .u64 t242) := (blk_cell BK244.out 6).trans rfl; have hfz28_0 := blk_frozen BK244.out 0; have hfz28_1 := blk_frozen BK244.out 1; have hfz28_2 := blk_frozen BK244.out 2; have hfz28_3 := blk_frozen BK244.out 3; have hfz28_4 := blk_frozen BK244.out 4; have hfz28_5 := blk_frozen BK244.out 5; have hfz28_6 := blk_frozen BK244.out 6))
          go_meet
          case rel => exact ⟨_, (t250), (IntKind.u64.wrap (wrap64 (255 + t249))), H', ⟨by have := HJ5.out; first | omega | exact Nat.le_refl _⟩, ⟨by (with_reducible repeat (first | refine blk_drewN ?_ _ | refine blk_drew ?_ | refine blk_alloc ?_ _)); refine blk_far ?_ NB234_244.out _; (with_reducible repeat (first | refine blk_drewN ?_ _ | refine blk_drew ?_ | refine blk_alloc ?_ _)); exact BK234.out⟩, ⟨by (with_reducible repeat (first | refine blk_drewN ?_ _ | refine blk_drew ?_ | refine blk_alloc ?_ _)); refine blk_put (cs := #[.int .u64 0, .int .u64 x245001_5, .int .u64 (IntKind.u64.wrap (wrap64 (1 + t237))), .int .u64 t239, .int .u64 t240, .int .u64 t241, .int .u64 t242]) ?_ 2 _ rfl; (with_reducible repeat (first | refine blk_drewN ?_ _ | refine blk_drew ?_ | refine blk_alloc ?_ _)); exact BK244.out⟩, ⟨by repeat (first | (with_reducible first | exact HI0.out | apply IsS123.alloc | apply IsS123.drewN | apply IsS123.drew | apply IsS123.set_1 | refine IsS123.far ?_ NB0_234.out _ | refine IsS123.far ?_ NB0_244.out _) | exact HI0.out)⟩, ⟨by repeat (first | (with_reducible first | exact HK.out | apply KeepBut.set_ | apply keep_drewN | apply keep_drew | apply keep_alloc | refine keep_far ?_ GW234.out _ | refine keep_far ?_ GW244.out _) | exact HK.out)⟩, ⟨by repeat (first | (with_reducible first | exact HB.out | apply below_alloc | apply pw_below_drewN | apply below_drew1 | refine below_set ?_ (IsS123.ge HI0.out) | refine below_set ?_ GE234.out | refine below_set ?_ GE244.out) | exact HB.out)⟩⟩
        · rw [if_neg c23] at H
          have c23b0 : (t245 == 1) = false := beq_eq_false_iff_ne.mpr c23
          have c23b1 : (t245 != 1) = true := bne_iff_ne.mpr c23
          (first | rw [c23b0] | (simp only [i64_w, i32_w]; rw [c23b0]) | skip)
          have H' := Aside0.mk H
          clear H
          go_wp2
          go_meet
          case rel => exact ⟨_, (x1001_5), ((IntKind.u64.wrap (wrap64 (1 + t237)))), H', ⟨by have := HJ5.out; first | omega | exact Nat.le_refl _⟩, ⟨by (with_reducible repeat (first | refine blk_drewN ?_ _ | refine blk_drew ?_ | refine blk_alloc ?_ _)); exact BK234.out⟩, ⟨by (with_reducible repeat (first | refine blk_drewN ?_ _ | refine blk_drew ?_ | refine blk_alloc ?_ _)); exact BK244.out⟩, ⟨by repeat (first | (with_reducible first | exact HI0.out | apply IsS123.alloc | apply IsS123.drewN | apply IsS123.drew | apply IsS123.set_1 | refine IsS123.far ?_ NB0_234.out _ | refine IsS123.far ?_ NB0_244.out _) | exact HI0.out)⟩, ⟨by repeat (first | (with_reducible first | exact HK.out | apply KeepBut.set_ | apply keep_drewN | apply keep_drew | apply keep_alloc | refine keep_far ?_ GW234.out _ | refine keep_far ?_ GW244.out _) | exact HK.out)⟩, ⟨by repeat (first | (with_reducible first | exact HB.out | apply below_alloc | apply pw_below_drewN | apply below_drew1 | refine below_set ?_ (IsS123.ge HI0.out) | refine below_set ?_ GE234.out | refine below_set ?_ GE244.out) | exact HB.out)⟩⟩
      case rest =>
        clear HC22
        try clear c1
        try clear c2
        try clear p2
        try clear c6
        try clear p6
        try clear c7
        try clear c12
        try clear c13
        try clear c16
        try clear c16b0
        try clear c16b1
        try clear c19
        try clear c20
        try clear c23
        try clear c23b0
        try clear c23b1
        try clear c26
        try clear c27
        try clear hcz14_0
        try clear hcz14_1
        try clear hcz14_2
        try clear hcz14_3
        try clear hcz14_4
        try clear hcz14_5
        try clear hcz14_6
        try clear hcz21_0
        try clear hcz21_1
        try clear hcz21_2
        try clear hcz21_3
        try clear hcz21_4
        try clear hcz21_5
        try clear hcz21_6
        try clear hcz28_0
        try clear hcz28_1
        try clear hcz28_2
        try clear hcz28_3
        try clear hcz28_4
        try clear hcz28_5
        try clear hcz28_6
        try clear hfz14_0
        try clear hfz14_1
        try clear hfz14_2
        try clear hfz14_3
        try clear hfz14_4
        try clear hfz14_5
        try clear hfz14_6
        try clear hfz21_0
        try clear hfz21_1
        try clear hfz21_2
        try clear hfz21_3
        try clear hfz21_4
        try clear hfz21_5
        try clear hfz21_6
        try clear hfz28_0
        try clear hfz28_1
        try clear hfz28_2
        try clear hfz28_3
        try clear hfz28_4
        try clear hfz28_5
        try clear hfz28_6
        try clear p2
        try clear p6
        obtain ⟨kq, x1001_21, x245002_21, HA, HJ21, BK234, BK244, HI0, HK, HB⟩ := hcut
        cases kq with
        | zero => exact absurd HA.out (by simp [spec_l7Slot.j1])
        | succ kj21 =>
          have H := HA.out
          clear HA
          simp only [spec_l7Slot.j1] at H
          have HC29 := Aside0.mk H
          clear H
          go_upto_if 34 with (fail)
          go_cut [] (fun wc => ∃ (kq : Nat) (x1001_28 : Int) (x245001_28 : Int), Aside0 (spec_l7Slot.j2 kq t245 s0_0 x1001_28 0 x245001_28 x245002_21 t239 t240 t241 t242 = some (r1, r2, r3, r4, r5, r6, r7, r8)) ∧ Aside0 (kq ≤ kj21) ∧ Aside0 (wc.heap[gb234]? = some (.cells #[.int .u64 0, .int .u64 0, .int .u64 0, .int .u64 0, .int .u64 0, .int .u64 0, .int .u64 0] 30 (0, 0))) ∧ Aside0 (wc.heap[gb244]? = some (.cells #[.int .u64 0, .int .u64 x245001_28, .int .u64 x245002_21, .int .u64 t239, .int .u64 t240, .int .u64 t241, .int .u64 t242] 30 (0, 0))) ∧ Aside0 (IsS123 w0 wc g s0_0 x1001_28) ∧ Aside0 (KeepBut w wc g none) ∧ Aside0 (Below w0.heap.size w0 wc))
          case first =>
            have H := HC29.out
            clear HC29
            by_cases c30 : t245 = 2
            · rw [if_pos c30] at H
              have c30b0 : (t245 == 2) = true := beq_iff_eq.mpr c30
              have c30b1 : (t245 != 2) = false := bne_eq_false_iff_eq.mpr c30
              clear c30
              (first | rw [c30b0] | (simp only [i64_w, i32_w]; rw [c30b0]) | skip)
              replace H := Option.bind_eq_some_iff.mp H
              obtain ⟨⟨t251, t252⟩, A310, H⟩ := H
              replace H : (spec_l7Slot.j2 kj21 t245 s0_0 t252 0 t251 x245002_21 t239 t240 t241 t242) = some (r1, r2, r3, r4, r5, r6, r7, r8) := H
              have A31 := Aside0.mk A310
              clear A310
              have H' := Aside0.mk H
              clear H
              go_wp2_with (first | ((with_reducible refine gate_callee (f := 81) rfl ?_); refine goesL_ (some 36) rfl rfl Try.func81 (by kernel_rfl) rfl #[.pointer (some ⟨g, 0, none⟩)] rfl (by (try simp only [List.map_toArray, List.map_cons, List.map_nil]); first | done | rfl | (simp only [List.length_drop, List.length_take]; rfl)) ?_; (with_reducible refine (spec_l1Rd_word.calls kj21 g s0_0 x1001_21 t251 t252 w0 _ ?side1 ?side2 A31.out).mono ?_); (case side1 => repeat (first | (with_reducible first | exact HI0.out | apply IsS123.alloc | apply IsS123.drewN | apply IsS123.drew | apply IsS123.set_1 | refine IsS123.far ?_ NB0_234.out _ | refine IsS123.far ?_ NB0_244.out _) | exact HI0.out)); (case side2 => repeat (first | (with_reducible first | exact HB.out | apply below_alloc | apply pw_below_drewN | apply below_drew1 | refine below_set ?_ (IsS123.ge HI0.out) | refine below_set ?_ GE234.out | refine below_set ?_ GE244.out) | exact HB.out)); rintro e w32 ⟨rfl, hi, hb, hk⟩; refine ⟨_, rfl, ?_⟩; have n0_ := Aside0.mk (KeepBut.blk hk (g' := gb234) (o := .cells #[.int .u64 0, .int .u64 0, .int .u64 0, .int .u64 0, .int .u64 0, .int .u64 0, .int .u64 0] 30 (0, 0)) (by (with_reducible repeat (first | refine blk_drewN ?_ _ | refine blk_drew ?_ | refine blk_alloc ?_ _)); exact BK234.out) NB234_0.out (by simp)); have n1_ := Aside0.mk (KeepBut.blk hk (g' := gb244) (o := .cells #[.int .u64 0, .int .u64 x245001_5, .int .u64 x245002_21, .int .u64 t239, .int .u64 t240, .int .u64 t241, .int .u64 t242] 30 (0, 0)) (by (with_reducible repeat (first | refine blk_drewN ?_ _ | refine blk_drew ?_ | refine blk_alloc ?_ _)); exact BK244.out) NB244_0.out (by simp)); have n2_ := Aside0.mk (KeepBut.trans (by repeat (first | (with_reducible first | exact HK.out | apply KeepBut.set_ | apply keep_drewN | apply keep_drew | apply keep_alloc | refine keep_far ?_ GW234.out _ | refine keep_far ?_ GW244.out _) | exact HK.out)) hk (.inl rfl)); have n3_ := Aside0.mk (hb); have n4_ := Aside0.mk (hi); clear BK234; clear BK244; clear HK; clear HB; clear HI0; have BK234 := n0_; have BK244 := n1_; have HK := n2_; have HB := n3_; have HI0 := n4_; clear n0_ n1_ n2_ n3_ n4_; (try clear hb); (try clear hb2); (try clear hk); (try clear hi); have hnb33 := NB244_234.out; have hnc33 := NB234_244.out; have hnb34 := NB244_0.out; have hnc34 := NB0_244.out; have hcz35_0 : w32.cell? ⟨gb244, 0, none⟩ = some (.int .u64 0) := (blk_cell BK244.out 0).trans rfl; have hcz35_1 : w32.cell? ⟨gb244, 1, none⟩ = some (.int .u64 x245001_5) := (blk_cell BK244.out 1).trans rfl; have hcz35_2 : w32.cell? ⟨gb244, 2, none⟩ = some (.int .u64 x245002_21) := (blk_cell BK244.out 2).trans rfl; have hcz35_3 : w32.cell? ⟨gb244, 3, none⟩ = some (.int .u64 t239) := (blk_cell BK244.out 3).trans rfl; have hcz35_4 : w32.cell? ⟨gb244, 4, none⟩ = some (.int .u64 t240) := (blk_cell BK244.out 4).trans rfl; have hcz35_5 : w32.cell? ⟨gb244, 5, none⟩ = some (.int .u64 t241) := (blk_cell BK244.out 5).trans rfl; have hcz35_6 : w32.cell? ⟨gb244, 6, none⟩ = some (.int .u64 t242) := (blk_cell BK244.out 6).trans rfl; have hfz35_0 := blk_frozen BK244.out 0; have hfz35_1 := blk_frozen BK244.out 1; have hfz35_2 := blk_frozen BK244.out 2; have hfz35_3 := blk_frozen BK244.out 3; have hfz35_4 := blk_frozen BK244.out 4; have hfz35_5 := blk_frozen BK244.out 5; have hfz35_6 := blk_frozen BK244.out 6))
              go_meet
              case rel => exact ⟨_, (t252), (t251), H', ⟨by have := HJ5.out; have := HJ21.out; first | omega | exact Nat.le_refl _⟩, ⟨by (with_reducible repeat (first | refine blk_drewN ?_ _ | refine blk_drew ?_ | refine blk_alloc ?_ _)); refine blk_far ?_ NB234_244.out _; (with_reducible repeat (first | refine blk_drewN ?_ _ | refine blk_drew ?_ | refine blk_alloc ?_ _)); exact BK234.out⟩, ⟨by (with_reducible repeat (first | refine blk_drewN ?_ _ | refine blk_drew ?_ | refine blk_alloc ?_ _)); refine blk_put (cs := #[.int .u64 0, .int .u64 x245001_5, .int .u64 x245002_21, .int .u64 t239, .int .u64 t240, .int .u64 t241, .int .u64 t242]) ?_ 1 _ rfl; (with_reducible repeat (first | refine blk_drewN ?_ _ | refine blk_drew ?_ | refine blk_alloc ?_ _)); exact BK244.out⟩, ⟨by repeat (first | (with_reducible first | exact HI0.out | apply IsS123.alloc | apply IsS123.drewN | apply IsS123.drew | apply IsS123.set_1 | refine IsS123.far ?_ NB0_234.out _ | refine IsS123.far ?_ NB0_244.out _) | exact HI0.out)⟩, ⟨by repeat (first | (with_reducible first | exact HK.out | apply KeepBut.set_ | apply keep_drewN | apply keep_drew | apply keep_alloc | refine keep_far ?_ GW234.out _ | refine keep_far ?_ GW244.out _) | exact HK.out)⟩, ⟨by repeat (first | (with_reducible first | exact HB.out | apply below_alloc | apply pw_below_drewN | apply below_drew1 | refine below_set ?_ (IsS123.ge HI0.out) | refine below_set ?_ GE234.out | refine below_set ?_ GE244.out) | exact HB.out)⟩⟩
            · rw [if_neg c30] at H
              have c30b0 : (t245 == 2) = false := beq_eq_false_iff_ne.mpr c30
              have c30b1 : (t245 != 2) = true := bne_iff_ne.mpr c30
              (first | rw [c30b0] | (simp only [i64_w, i32_w]; rw [c30b0]) | skip)
              have H' := Aside0.mk H
              clear H
              go_wp2
              go_meet
              case rel => exact ⟨_, (x1001_21), (x245001_5), H', ⟨by have := HJ5.out; have := HJ21.out; first | omega | exact Nat.le_refl _⟩, ⟨by (with_reducible repeat (first | refine blk_drewN ?_ _ | refine blk_drew ?_ | refine blk_alloc ?_ _)); exact BK234.out⟩, ⟨by (with_reducible repeat (first | refine blk_drewN ?_ _ | refine blk_drew ?_ | refine blk_alloc ?_ _)); exact BK244.out⟩, ⟨by repeat (first | (with_reducible first | exact HI0.out | apply IsS123.alloc | apply IsS123.drewN | apply IsS123.drew | apply IsS123.set_1 | refine IsS123.far ?_ NB0_234.out _ | refine IsS123.far ?_ NB0_244.out _) | exact HI0.out)⟩, ⟨by repeat (first | (with_reducible first | exact HK.out | apply KeepBut.set_ | apply keep_drewN | apply keep_drew | apply keep_alloc | refine keep_far ?_ GW234.out _ | refine keep_far ?_ GW244.out _) | exact HK.out)⟩, ⟨by repeat (first | (with_reducible first | exact HB.out | apply below_alloc | apply pw_below_drewN | apply below_drew1 | refine below_set ?_ (IsS123.ge HI0.out) | refine below_set ?_ GE234.out | refine below_set ?_ GE244.out) | exact HB.out)⟩⟩
          case rest =>
            clear HC29
            try clear c1
            try clear c2
            try clear p2
            try clear c3
            try clear c6
            try clear p6
            try clear c7
            try clear c8
            try clear c12
            try clear c13
            try clear c16
            try clear c16b0
            try clear c16b1
            try clear c19
            try clear c20
            try clear c23
            try clear c23b0
            try clear c23b1
            try clear c26
            try clear c27
            try clear c30
            try clear c30b0
            try clear c30b1
            try clear c33
            try clear c34
            try clear hcz14_0
            try clear hcz14_1
            try clear hcz14_2
            try clear hcz14_3
            try clear hcz14_4
            try clear hcz14_5
            try clear hcz14_6
            try clear hcz21_0
            try clear hcz21_1
            try clear hcz21_2
            try clear hcz21_3
            try clear hcz21_4
            try clear hcz21_5
            try clear hcz21_6
            try clear hcz28_0
            try clear hcz28_1
            try clear hcz28_2
            try clear hcz28_3
            try clear hcz28_4
            try clear hcz28_5
            try clear hcz28_6
            try clear hcz35_0
            try clear hcz35_1
            try clear hcz35_2
            try clear hcz35_3
            try clear hcz35_4
            try clear hcz35_5
            try clear hcz35_6
            try clear hfz14_0
            try clear hfz14_1
            try clear hfz14_2
            try clear hfz14_3
            try clear hfz14_4
            try clear hfz14_5
            try clear hfz14_6
            try clear hfz21_0
            try clear hfz21_1
            try clear hfz21_2
            try clear hfz21_3
            try clear hfz21_4
            try clear hfz21_5
            try clear hfz21_6
            try clear hfz28_0
            try clear hfz28_1
            try clear hfz28_2
            try clear hfz28_3
            try clear hfz28_4
            try clear hfz28_5
            try clear hfz28_6
            try clear hfz35_0
            try clear hfz35_1
            try clear hfz35_2
            try clear hfz35_3
            try clear hfz35_4
            try clear hfz35_5
            try clear hfz35_6
            try clear p2
            try clear p6
            obtain ⟨kq, x1001_28, x245001_28, HA, HJ28, BK234, BK244, HI0, HK, HB⟩ := hcut
            cases kq with
            | zero => exact absurd HA.out (by simp [spec_l7Slot.j2])
            | succ kj28 =>
              have H := HA.out
              clear HA
              simp only [spec_l7Slot.j2] at H
              have HC36 := Aside0.mk H
              clear H
              go_upto_if 39 with (fail)
              go_cut [] (fun wc => ∃ (kq : Nat) (x1001_35 : Int) (x245002_35 : Int), Aside0 (spec_l7Slot.j3 kq s0_0 x1001_35 0 x245001_28 x245002_35 t239 t240 t241 t242 = some (r1, r2, r3, r4, r5, r6, r7, r8)) ∧ Aside0 (kq ≤ kj28) ∧ Aside0 (wc.heap[gb234]? = some (.cells #[.int .u64 0, .int .u64 0, .int .u64 0, .int .u64 0, .int .u64 0, .int .u64 0, .int .u64 0] 30 (0, 0))) ∧ Aside0 (wc.heap[gb244]? = some (.cells #[.int .u64 0, .int .u64 x245001_28, .int .u64 x245002_35, .int .u64 t239, .int .u64 t240, .int .u64 t241, .int .u64 t242] 30 (0, 0))) ∧ Aside0 (IsS123 w0 wc g s0_0 x1001_35) ∧ Aside0 (KeepBut w wc g none) ∧ Aside0 (Below w0.heap.size w0 wc))
              case first =>
                have H := HC36.out
                clear HC36
                by_cases c37 : t245 = 3
                · rw [if_pos c37] at H
                  have c37b0 : (t245 == 3) = true := beq_iff_eq.mpr c37
                  have c37b1 : (t245 != 3) = false := bne_eq_false_iff_eq.mpr c37
                  clear c37
                  (first | rw [c37b0] | (simp only [i64_w, i32_w]; rw [c37b0]) | skip)
                  replace H := Option.bind_eq_some_iff.mp H
                  obtain ⟨⟨t253, t254⟩, A380, H⟩ := H
                  replace H : (spec_l7Slot.j3 kj28 s0_0 t254 0 x245001_28 t253 t239 t240 t241 t242) = some (r1, r2, r3, r4, r5, r6, r7, r8) := H
                  have A38 := Aside0.mk A380
                  clear A380
                  have H' := Aside0.mk H
                  clear H
                  go_wp2_with (first | ((with_reducible refine gate_callee (f := 81) rfl ?_); refine goesL_ (some 41) rfl rfl Try.func81 (by kernel_rfl) rfl #[.pointer (some ⟨g, 0, none⟩)] rfl (by (try simp only [List.map_toArray, List.map_cons, List.map_nil]); first | done | rfl | (simp only [List.length_drop, List.length_take]; rfl)) ?_; (with_reducible refine (spec_l1Rd_word.calls kj28 g s0_0 x1001_28 t253 t254 w0 _ ?side1 ?side2 A38.out).mono ?_); (case side1 => repeat (first | (with_reducible first | exact HI0.out | apply IsS123.alloc | apply IsS123.drewN | apply IsS123.drew | apply IsS123.set_1 | refine IsS123.far ?_ NB0_234.out _ | refine IsS123.far ?_ NB0_244.out _) | exact HI0.out)); (case side2 => repeat (first | (with_reducible first | exact HB.out | apply below_alloc | apply pw_below_drewN | apply below_drew1 | refine below_set ?_ (IsS123.ge HI0.out) | refine below_set ?_ GE234.out | refine below_set ?_ GE244.out) | exact HB.out)); rintro e w39 ⟨rfl, hi, hb, hk⟩; refine ⟨_, rfl, ?_⟩; have n0_ := Aside0.mk (KeepBut.blk hk (g' := gb234) (o := .cells #[.int .u64 0, .int .u64 0, .int .u64 0, .int .u64 0, .int .u64 0, .int .u64 0, .int .u64 0] 30 (0, 0)) (by (with_reducible repeat (first | refine blk_drewN ?_ _ | refine blk_drew ?_ | refine blk_alloc ?_ _)); exact BK234.out) NB234_0.out (by simp)); have n1_ := Aside0.mk (KeepBut.blk hk (g' := gb244) (o := .cells #[.int .u64 0, .int .u64 x245001_28, .int .u64 x245002_21, .int .u64 t239, .int .u64 t240, .int .u64 t241, .int .u64 t242] 30 (0, 0)) (by (with_reducible repeat (first | refine blk_drewN ?_ _ | refine blk_drew ?_ | refine blk_alloc ?_ _)); exact BK244.out) NB244_0.out (by simp)); have n2_ := Aside0.mk (KeepBut.trans (by repeat (first | (with_reducible first | exact HK.out | apply KeepBut.set_ | apply keep_drewN | apply keep_drew | apply keep_alloc | refine keep_far ?_ GW234.out _ | refine keep_far ?_ GW244.out _) | exact HK.out)) hk (.inl rfl)); have n3_ := Aside0.mk (hb); have n4_ := Aside0.mk (hi); clear BK234; clear BK244; clear HK; clear HB; clear HI0; have BK234 := n0_; have BK244 := n1_; have HK := n2_; have HB := n3_; have HI0 := n4_; clear n0_ n1_ n2_ n3_ n4_; (try clear hb); (try clear hb2); (try clear hk); (try clear hi); have hnb40 := NB244_234.out; have hnc40 := NB234_244.out; have hnb41 := NB244_0.out; have hnc41 := NB0_244.out; have hcz42_0 : w39.cell? ⟨gb244, 0, none⟩ = some (.int .u64 0) := (blk_cell BK244.out 0).trans rfl; have hcz42_1 : w39.cell? ⟨gb244, 1, none⟩ = some (.int .u64 x245001_28) := (blk_cell BK244.out 1).trans rfl; have hcz42_2 : w39.cell? ⟨gb244, 2, none⟩ = some (.int .u64 x245002_21) := (blk_cell BK244.out 2).trans rfl; have hcz42_3 : w39.cell? ⟨gb244, 3, none⟩ = some (.int .u64 t239) := (blk_cell BK244.out 3).trans rfl; have hcz42_4 : w39.cell? ⟨gb244, 4, none⟩ = some (.int .u64 t240) := (blk_cell BK244.out 4).trans rfl; have hcz42_5 : w39.cell? ⟨gb244, 5, none⟩ = some (.int .u64 t241) := (blk_cell BK244.out 5).trans rfl; have hcz42_6 : w39.cell? ⟨gb244, 6, none⟩ = some (.int .u64 t242) := (blk_cell BK244.out 6).trans rfl; have hfz42_0 := blk_frozen BK244.out 0; have hfz42_1 := blk_frozen BK244.out 1; have hfz42_2 := blk_frozen BK244.out 2; have hfz42_3 := blk_frozen BK244.out 3; have hfz42_4 := blk_frozen BK244.out 4; have hfz42_5 := blk_frozen BK244.out 5; have hfz42_6 := blk_frozen BK244.out 6))
                  go_meet
                  case rel => exact ⟨_, (t254), (t253), H', ⟨by have := HJ5.out; have := HJ21.out; have := HJ28.out; first | omega | exact Nat.le_refl _⟩, ⟨by (with_reducible repeat (first | refine blk_drewN ?_ _ | refine blk_drew ?_ | refine blk_alloc ?_ _)); refine blk_far ?_ NB234_244.out _; (with_reducible repeat (first | refine blk_drewN ?_ _ | refine blk_drew ?_ | refine blk_alloc ?_ _)); exact BK234.out⟩, ⟨by (with_reducible repeat (first | refine blk_drewN ?_ _ | refine blk_drew ?_ | refine blk_alloc ?_ _)); refine blk_put (cs := #[.int .u64 0, .int .u64 x245001_28, .int .u64 x245002_21, .int .u64 t239, .int .u64 t240, .int .u64 t241, .int .u64 t242]) ?_ 2 _ rfl; (with_reducible repeat (first | refine blk_drewN ?_ _ | refine blk_drew ?_ | refine blk_alloc ?_ _)); exact BK244.out⟩, ⟨by repeat (first | (with_reducible first | exact HI0.out | apply IsS123.alloc | apply IsS123.drewN | apply IsS123.drew | apply IsS123.set_1 | refine IsS123.far ?_ NB0_234.out _ | refine IsS123.far ?_ NB0_244.out _) | exact HI0.out)⟩, ⟨by repeat (first | (with_reducible first | exact HK.out | apply KeepBut.set_ | apply keep_drewN | apply keep_drew | apply keep_alloc | refine keep_far ?_ GW234.out _ | refine keep_far ?_ GW244.out _) | exact HK.out)⟩, ⟨by repeat (first | (with_reducible first | exact HB.out | apply below_alloc | apply pw_below_drewN | apply below_drew1 | refine below_set ?_ (IsS123.ge HI0.out) | refine below_set ?_ GE234.out | refine below_set ?_ GE244.out) | exact HB.out)⟩⟩
                · rw [if_neg c37] at H
                  have c37b0 : (t245 == 3) = false := beq_eq_false_iff_ne.mpr c37
                  have c37b1 : (t245 != 3) = true := bne_iff_ne.mpr c37
                  (first | rw [c37b0] | (simp only [i64_w, i32_w]; rw [c37b0]) | skip)
                  have H' := Aside0.mk H
                  clear H
                  go_wp2
                  go_meet
                  case rel => exact ⟨_, (x1001_28), (x245002_21), H', ⟨by have := HJ5.out; have := HJ21.out; have := HJ28.out; first | omega | exact Nat.le_refl _⟩, ⟨by (with_reducible repeat (first | refine blk_drewN ?_ _ | refine blk_drew ?_ | refine blk_alloc ?_ _)); exact BK234.out⟩, ⟨by (with_reducible repeat (first | refine blk_drewN ?_ _ | refine blk_drew ?_ | refine blk_alloc ?_ _)); exact BK244.out⟩, ⟨by repeat (first | (with_reducible first | exact HI0.out | apply IsS123.alloc | apply IsS123.drewN | apply IsS123.drew | apply IsS123.set_1 | refine IsS123.far ?_ NB0_234.out _ | refine IsS123.far ?_ NB0_244.out _) | exact HI0.out)⟩, ⟨by repeat (first | (with_reducible first | exact HK.out | apply KeepBut.set_ | apply keep_drewN | apply keep_drew | apply keep_alloc | refine keep_far ?_ GW234.out _ | refine keep_far ?_ GW244.out _) | exact HK.out)⟩, ⟨by repeat (first | (with_reducible first | exact HB.out | apply below_alloc | apply pw_below_drewN | apply below_drew1 | refine below_set ?_ (IsS123.ge HI0.out) | refine below_set ?_ GE234.out | refine below_set ?_ GE244.out) | exact HB.out)⟩⟩
              case rest =>
                clear HC36
                try clear c1
                try clear c2
                try clear p2
                try clear c3
                try clear c4
                try clear c6
                try clear p6
                try clear c7
                try clear c8
                try clear c12
                try clear c13
                try clear c16
                try clear c16b0
                try clear c16b1
                try clear c19
                try clear c20
                try clear c23
                try clear c23b0
                try clear c23b1
                try clear c26
                try clear c27
                try clear c30
                try clear c30b0
                try clear c30b1
                try clear c33
                try clear c34
                try clear c37
                try clear c37b0
                try clear c37b1
                try clear c40
                try clear c41
                try clear hcz14_0
                try clear hcz14_1
                try clear hcz14_2
                try clear hcz14_3
                try clear hcz14_4
                try clear hcz14_5
                try clear hcz14_6
                try clear hcz21_0
                try clear hcz21_1
                try clear hcz21_2
                try clear hcz21_3
                try clear hcz21_4
                try clear hcz21_5
                try clear hcz21_6
                try clear hcz28_0
                try clear hcz28_1
                try clear hcz28_2
                try clear hcz28_3
                try clear hcz28_4
                try clear hcz28_5
                try clear hcz28_6
                try clear hcz35_0
                try clear hcz35_1
                try clear hcz35_2
                try clear hcz35_3
                try clear hcz35_4
                try clear hcz35_5
                try clear hcz35_6
                try clear hcz42_0
                try clear hcz42_1
                try clear hcz42_2
                try clear hcz42_3
                try clear hcz42_4
                try clear hcz42_5
                try clear hcz42_6
                try clear hfz14_0
                try clear hfz14_1
                try clear hfz14_2
                try clear hfz14_3
                try clear hfz14_4
                try clear hfz14_5
                try clear hfz14_6
                try clear hfz21_0
                try clear hfz21_1
                try clear hfz21_2
                try clear hfz21_3
                try clear hfz21_4
                try clear hfz21_5
                try clear hfz21_6
                try clear hfz28_0
                try clear hfz28_1
                try clear hfz28_2
                try clear hfz28_3
                try clear hfz28_4
                try clear hfz28_5
                try clear hfz28_6
                try clear hfz35_0
                try clear hfz35_1
                try clear hfz35_2
                try clear hfz35_3
                try clear hfz35_4
                try clear hfz35_5
                try clear hfz35_6
                try clear hfz42_0
                try clear hfz42_1
                try clear hfz42_2
                try clear hfz42_3
                try clear hfz42_4
                try clear hfz42_5
                try clear hfz42_6
                try clear p2
                try clear p6
                obtain ⟨kq, x1001_35, x245002_35, HA, HJ35, BK234, BK244, HI0, HK, HB⟩ := hcut
                cases kq with
                | zero => exact absurd HA.out (by simp [spec_l7Slot.j3])
                | succ kj35 =>
                  have H := HA.out
                  clear HA
                  simp only [spec_l7Slot.j3] at H
                  replace H := Option.bind_eq_some_iff.mp H
                  obtain ⟨t255, A430, H⟩ := H
                  replace H : ((spec_l1Rd_pick.f kj35 s0_0 x1001_35 10).bind fun bt256 => (if bt256.1 = 0 then (spec_l7Slot.j4 kj35 bt256.1 s0_0 bt256.2 0 x245001_28 x245002_35 t239 t240 t241 t242) else (spec_l7Slot.j4 kj35 bt256.1 s0_0 bt256.2 t255 x245001_28 x245002_35 t239 t240 t241 t242))) = some (r1, r2, r3, r4, r5, r6, r7, r8) := H
                  have A43 := Aside0.mk A430
                  clear A430
                  replace H := Option.bind_eq_some_iff.mp H
                  obtain ⟨⟨t256, t257⟩, A440, H⟩ := H
                  replace H : (if t256 = 0 then (spec_l7Slot.j4 kj35 t256 s0_0 t257 0 x245001_28 x245002_35 t239 t240 t241 t242) else (spec_l7Slot.j4 kj35 t256 s0_0 t257 t255 x245001_28 x245002_35 t239 t240 t241 t242)) = some (r1, r2, r3, r4, r5, r6, r7, r8) := H
                  have A44 := Aside0.mk A440
                  clear A440
                  have HC45 := Aside0.mk H
                  clear H
                  have hnb46 := NB244_234.out
                  have hnc46 := NB234_244.out
                  have hnb47 := NB244_0.out
                  have hnc47 := NB0_244.out
                  have hcz48_0 : wc.cell? ⟨gb244, 0, none⟩ = some (.int .u64 0) := (blk_cell BK244.out 0).trans rfl
                  have hcz48_1 : wc.cell? ⟨gb244, 1, none⟩ = some (.int .u64 x245001_28) := (blk_cell BK244.out 1).trans rfl
                  have hcz48_2 : wc.cell? ⟨gb244, 2, none⟩ = some (.int .u64 x245002_35) := (blk_cell BK244.out 2).trans rfl
                  have hcz48_3 : wc.cell? ⟨gb244, 3, none⟩ = some (.int .u64 t239) := (blk_cell BK244.out 3).trans rfl
                  have hcz48_4 : wc.cell? ⟨gb244, 4, none⟩ = some (.int .u64 t240) := (blk_cell BK244.out 4).trans rfl
                  have hcz48_5 : wc.cell? ⟨gb244, 5, none⟩ = some (.int .u64 t241) := (blk_cell BK244.out 5).trans rfl
                  have hcz48_6 : wc.cell? ⟨gb244, 6, none⟩ = some (.int .u64 t242) := (blk_cell BK244.out 6).trans rfl
                  have hfz48_0 := blk_frozen BK244.out 0
                  have hfz48_1 := blk_frozen BK244.out 1
                  have hfz48_2 := blk_frozen BK244.out 2
                  have hfz48_3 := blk_frozen BK244.out 3
                  have hfz48_4 := blk_frozen BK244.out 4
                  have hfz48_5 := blk_frozen BK244.out 5
                  have hfz48_6 := blk_frozen BK244.out 6
                  go_upto_if 49 with (first | ((with_reducible refine gate_callee (f := 16) rfl ?_); refine goesL_ (some 44) rfl rfl Try.func16 (by kernel_rfl) rfl #[.agg #[.int .u64 0, .int .u64 x245001_28, .int .u64 x245002_35, .int .u64 t239, .int .u64 t240, .int .u64 t241, .int .u64 t242]] rfl (by (try simp only [List.map_toArray, List.map_cons, List.map_nil]); first | done | rfl | (simp only [List.length_drop, List.length_take]; rfl)) ?_; (with_reducible refine (spec_SlotSum.calls kj35 0 x245001_28 x245002_35 t239 t240 t241 t242 t255 _ A43.out).mono ?_); rintro e w49 ⟨rfl, hb⟩; refine ⟨_, rfl, ?_⟩; have n0_ := Aside0.mk (blk_below (g := gb234) (o := .cells #[.int .u64 0, .int .u64 0, .int .u64 0, .int .u64 0, .int .u64 0, .int .u64 0, .int .u64 0] 30 (0, 0)) (by (with_reducible repeat (first | refine blk_drewN ?_ _ | refine blk_drew ?_ | refine blk_alloc ?_ _)); exact BK234.out) hb); have n1_ := Aside0.mk (blk_below (g := gb244) (o := .cells #[.int .u64 0, .int .u64 x245001_28, .int .u64 x245002_35, .int .u64 t239, .int .u64 t240, .int .u64 t241, .int .u64 t242] 30 (0, 0)) (by (with_reducible repeat (first | refine blk_drewN ?_ _ | refine blk_drew ?_ | refine blk_alloc ?_ _)); exact BK244.out) hb); have n2_ := Aside0.mk (IsS123.below (by repeat (first | (with_reducible first | exact HI0.out | apply IsS123.alloc | apply IsS123.drewN | apply IsS123.drew | apply IsS123.set_1 | refine IsS123.far ?_ NB0_234.out _ | refine IsS123.far ?_ NB0_244.out _) | exact HI0.out)) hb); have n3_ := Aside0.mk (KeepBut.trans (by repeat (first | (with_reducible first | exact HK.out | apply KeepBut.set_ | apply keep_drewN | apply keep_drew | apply keep_alloc | refine keep_far ?_ GW234.out _ | refine keep_far ?_ GW244.out _) | exact HK.out)) (KeepBut.of_below hb g none) (.inl rfl)); have n4_ := Aside0.mk (below_step (by repeat (first | (with_reducible first | exact HB.out | apply below_alloc | apply pw_below_drewN | apply below_drew1 | refine below_set ?_ (IsS123.ge HI0.out) | refine below_set ?_ GE234.out | refine below_set ?_ GE244.out) | exact HB.out)) hb); clear BK234; clear BK244; clear HI0; clear HK; clear HB; have BK234 := n0_; have BK244 := n1_; have HI0 := n2_; have HK := n3_; have HB := n4_; clear n0_ n1_ n2_ n3_ n4_; (try clear hb); (try clear hb2); (try clear hk); (try clear hi); have hcz50_0 : w49.cell? ⟨gb244, 0, none⟩ = some (.int .u64 0) := (blk_cell BK244.out 0).trans rfl; have hcz50_1 : w49.cell? ⟨gb244, 1, none⟩ = some (.int .u64 x245001_28) := (blk_cell BK244.out 1).trans rfl; have hcz50_2 : w49.cell? ⟨gb244, 2, none⟩ = some (.int .u64 x245002_35) := (blk_cell BK244.out 2).trans rfl; have hcz50_3 : w49.cell? ⟨gb244, 3, none⟩ = some (.int .u64 t239) := (blk_cell BK244.out 3).trans rfl; have hcz50_4 : w49.cell? ⟨gb244, 4, none⟩ = some (.int .u64 t240) := (blk_cell BK244.out 4).trans rfl; have hcz50_5 : w49.cell? ⟨gb244, 5, none⟩ = some (.int .u64 t241) := (blk_cell BK244.out 5).trans rfl; have hcz50_6 : w49.cell? ⟨gb244, 6, none⟩ = some (.int .u64 t242) := (blk_cell BK244.out 6).trans rfl; have hfz50_0 := blk_frozen BK244.out 0; have hfz50_1 := blk_frozen BK244.out 1; have hfz50_2 := blk_frozen BK244.out 2; have hfz50_3 := blk_frozen BK244.out 3; have hfz50_4 := blk_frozen BK244.out 4; have hfz50_5 := blk_frozen BK244.out 5; have hfz50_6 := blk_frozen BK244.out 6) | ((with_reducible refine gate_callee (f := 73) rfl ?_); refine goesL_ (some 47) rfl rfl Try.func73 (by kernel_rfl) rfl #[.pointer (some ⟨g, 0, none⟩), .int .i64 10] rfl (by (try simp only [List.map_toArray, List.map_cons, List.map_nil]); first | done | rfl | (simp only [List.length_drop, List.length_take]; rfl)) ?_; (with_reducible refine (spec_l1Rd_pick.calls kj35 g s0_0 x1001_35 10 t256 t257 w0 _ ?side1 ?side2 A44.out).mono ?_); (case side1 => repeat (first | (with_reducible first | exact HI0.out | apply IsS123.alloc | apply IsS123.drewN | apply IsS123.drew | apply IsS123.set_1 | refine IsS123.far ?_ NB0_234.out _ | refine IsS123.far ?_ NB0_244.out _) | exact HI0.out)); (case side2 => repeat (first | (with_reducible first | exact HB.out | apply below_alloc | apply pw_below_drewN | apply below_drew1 | refine below_set ?_ (IsS123.ge HI0.out) | refine below_set ?_ GE234.out | refine below_set ?_ GE244.out) | exact HB.out)); rintro e w51 ⟨rfl, hi, hb, hk⟩; refine ⟨_, rfl, ?_⟩; have n0_ := Aside0.mk (KeepBut.blk hk (g' := gb234) (o := .cells #[.int .u64 0, .int .u64 0, .int .u64 0, .int .u64 0, .int .u64 0, .int .u64 0, .int .u64 0] 30 (0, 0)) (by (with_reducible repeat (first | refine blk_drewN ?_ _ | refine blk_drew ?_ | refine blk_alloc ?_ _)); refine blk_far ?_ NB234_244.out _; (with_reducible repeat (first | refine blk_drewN ?_ _ | refine blk_drew ?_ | refine blk_alloc ?_ _)); exact BK234.out) NB234_0.out (by simp)); have n1_ := Aside0.mk (KeepBut.blk hk (g' := gb244) (o := .cells #[.int .u64 t255, .int .u64 x245001_28, .int .u64 x245002_35, .int .u64 t239, .int .u64 t240, .int .u64 t241, .int .u64 t242] 30 (0, 0)) (by (with_reducible repeat (first | refine blk_drewN ?_ _ | refine blk_drew ?_ | refine blk_alloc ?_ _)); refine blk_put (cs := #[.int .u64 0, .int .u64 x245001_28, .int .u64 x245002_35, .int .u64 t239, .int .u64 t240, .int .u64 t241, .int .u64 t242]) ?_ 0 _ rfl; (with_reducible repeat (first | refine blk_drewN ?_ _ | refine blk_drew ?_ | refine blk_alloc ?_ _)); exact BK244.out) NB244_0.out (by simp)); have n2_ := Aside0.mk (KeepBut.trans (by repeat (first | (with_reducible first | exact HK.out | apply KeepBut.set_ | apply keep_drewN | apply keep_drew | apply keep_alloc | refine keep_far ?_ GW234.out _ | refine keep_far ?_ GW244.out _) | exact HK.out)) hk (.inl rfl)); have n3_ := Aside0.mk (hb); have n4_ := Aside0.mk (hi); clear BK234; clear BK244; clear HK; clear HB; clear HI0; have BK234 := n0_; have BK244 := n1_; have HK := n2_; have HB := n3_; have HI0 := n4_; clear n0_ n1_ n2_ n3_ n4_; (try clear hb); (try clear hb2); (try clear hk); (try clear hi)))
                  (try simp only [Act.put, List.setIfInBounds_toArray, List.set_cons_zero, List.set_cons_succ])
                  go_cut [] (fun wc => ∃ (kq : Nat) (x245000_44 : Int), Aside0 (spec_l7Slot.j4 kq t256 s0_0 t257 x245000_44 x245001_28 x245002_35 t239 t240 t241 t242 = some (r1, r2, r3, r4, r5, r6, r7, r8)) ∧ Aside0 (kq ≤ kj35) ∧ Aside0 (wc.heap[gb234]? = some (.cells #[.int .u64 0, .int .u64 0, .int .u64 0, .int .u64 0, .int .u64 0, .int .u64 0, .int .u64 0] 30 (0, 0))) ∧ Aside0 (wc.heap[gb244]? = some (.cells #[.int .u64 x245000_44, .int .u64 x245001_28, .int .u64 x245002_35, .int .u64 t239, .int .u64 t240, .int .u64 t241, .int .u64 t242] 30 (0, 0))) ∧ Aside0 (IsS123 w0 wc g s0_0 t257) ∧ Aside0 (KeepBut w wc g none) ∧ Aside0 (Below w0.heap.size w0 wc))
                  case first =>
                    have H := HC45.out
                    clear HC45
                    by_cases c52 : t256 = 0
                    · rw [if_pos c52] at H
                      have c52b0 : (t256 == 0) = true := beq_iff_eq.mpr c52
                      have c52b1 : (t256 != 0) = false := bne_eq_false_iff_eq.mpr c52
                      clear c52
                      (first | rw [c52b0] | (simp only [i64_w, i32_w]; rw [c52b0]) | skip)
                      have H' := Aside0.mk H
                      clear H
                      have hnb53 := NB244_234.out
                      have hnc53 := NB234_244.out
                      have hnb54 := NB244_0.out
                      have hnc54 := NB0_244.out
                      have hcz55_0 : w51.cell? ⟨gb244, 0, none⟩ = some (.int .u64 t255) := (blk_cell BK244.out 0).trans rfl
                      have hcz55_1 : w51.cell? ⟨gb244, 1, none⟩ = some (.int .u64 x245001_28) := (blk_cell BK244.out 1).trans rfl
                      have hcz55_2 : w51.cell? ⟨gb244, 2, none⟩ = some (.int .u64 x245002_35) := (blk_cell BK244.out 2).trans rfl
                      have hcz55_3 : w51.cell? ⟨gb244, 3, none⟩ = some (.int .u64 t239) := (blk_cell BK244.out 3).trans rfl
                      have hcz55_4 : w51.cell? ⟨gb244, 4, none⟩ = some (.int .u64 t240) := (blk_cell BK244.out 4).trans rfl
                      have hcz55_5 : w51.cell? ⟨gb244, 5, none⟩ = some (.int .u64 t241) := (blk_cell BK244.out 5).trans rfl
                      have hcz55_6 : w51.cell? ⟨gb244, 6, none⟩ = some (.int .u64 t242) := (blk_cell BK244.out 6).trans rfl
                      have hfz55_0 := blk_frozen BK244.out 0
                      have hfz55_1 := blk_frozen BK244.out 1
                      have hfz55_2 := blk_frozen BK244.out 2
                      have hfz55_3 := blk_frozen BK244.out 3
                      have hfz55_4 := blk_frozen BK244.out 4
                      have hfz55_5 := blk_frozen BK244.out 5
                      have hfz55_6 := blk_frozen BK244.out 6
                      go_wp2
                      go_meet
                      case rel => exact ⟨_, (0), H', ⟨by have := HJ5.out; have := HJ21.out; have := HJ28.out; have := HJ35.out; first | omega | exact Nat.le_refl _⟩, ⟨by (with_reducible repeat (first | refine blk_drewN ?_ _ | refine blk_drew ?_ | refine blk_alloc ?_ _)); refine blk_far ?_ NB234_244.out _; (with_reducible repeat (first | refine blk_drewN ?_ _ | refine blk_drew ?_ | refine blk_alloc ?_ _)); exact BK234.out⟩, ⟨by (with_reducible repeat (first | refine blk_drewN ?_ _ | refine blk_drew ?_ | refine blk_alloc ?_ _)); refine blk_put (cs := #[.int .u64 t255, .int .u64 x245001_28, .int .u64 x245002_35, .int .u64 t239, .int .u64 t240, .int .u64 t241, .int .u64 t242]) ?_ 0 _ rfl; (with_reducible repeat (first | refine blk_drewN ?_ _ | refine blk_drew ?_ | refine blk_alloc ?_ _)); exact BK244.out⟩, ⟨by repeat (first | (with_reducible first | exact HI0.out | apply IsS123.alloc | apply IsS123.drewN | apply IsS123.drew | apply IsS123.set_1 | refine IsS123.far ?_ NB0_234.out _ | refine IsS123.far ?_ NB0_244.out _) | exact HI0.out)⟩, ⟨by repeat (first | (with_reducible first | exact HK.out | apply KeepBut.set_ | apply keep_drewN | apply keep_drew | apply keep_alloc | refine keep_far ?_ GW234.out _ | refine keep_far ?_ GW244.out _) | exact HK.out)⟩, ⟨by repeat (first | (with_reducible first | exact HB.out | apply below_alloc | apply pw_below_drewN | apply below_drew1 | refine below_set ?_ (IsS123.ge HI0.out) | refine below_set ?_ GE234.out | refine below_set ?_ GE244.out) | exact HB.out)⟩⟩
                    · rw [if_neg c52] at H
                      have c52b0 : (t256 == 0) = false := beq_eq_false_iff_ne.mpr c52
                      have c52b1 : (t256 != 0) = true := bne_iff_ne.mpr c52
                      (first | rw [c52b0] | (simp only [i64_w, i32_w]; rw [c52b0]) | skip)
                      have H' := Aside0.mk H
                      clear H
                      go_wp2
                      go_meet
                      case rel => exact ⟨_, (t255), H', ⟨by have := HJ5.out; have := HJ21.out; have := HJ28.out; have := HJ35.out; first | omega | exact Nat.le_refl _⟩, ⟨by (with_reducible repeat (first | refine blk_drewN ?_ _ | refine blk_drew ?_ | refine blk_alloc ?_ _)); exact BK234.out⟩, ⟨by (with_reducible repeat (first | refine blk_drewN ?_ _ | refine blk_drew ?_ | refine blk_alloc ?_ _)); exact BK244.out⟩, ⟨by repeat (first | (with_reducible first | exact HI0.out | apply IsS123.alloc | apply IsS123.drewN | apply IsS123.drew | apply IsS123.set_1 | refine IsS123.far ?_ NB0_234.out _ | refine IsS123.far ?_ NB0_244.out _) | exact HI0.out)⟩, ⟨by repeat (first | (with_reducible first | exact HK.out | apply KeepBut.set_ | apply keep_drewN | apply keep_drew | apply keep_alloc | refine keep_far ?_ GW234.out _ | refine keep_far ?_ GW244.out _) | exact HK.out)⟩, ⟨by repeat (first | (with_reducible first | exact HB.out | apply below_alloc | apply pw_below_drewN | apply below_drew1 | refine below_set ?_ (IsS123.ge HI0.out) | refine below_set ?_ GE234.out | refine below_set ?_ GE244.out) | exact HB.out)⟩⟩
                  case rest =>
                    clear HC45
                    try clear c1
                    try clear c2
                    try clear p2
                    try clear c3
                    try clear c4
                    try clear c5
                    try clear c6
                    try clear p6
                    try clear c7
                    try clear c8
                    try clear c12
                    try clear c13
                    try clear c16
                    try clear c16b0
                    try clear c16b1
                    try clear c19
                    try clear c20
                    try clear c23
                    try clear c23b0
                    try clear c23b1
                    try clear c26
                    try clear c27
                    try clear c30
                    try clear c30b0
                    try clear c30b1
                    try clear c33
                    try clear c34
                    try clear c37
                    try clear c37b0
                    try clear c37b1
                    try clear c40
                    try clear c41
                    try clear c46
                    try clear c47
                    try clear c52
                    try clear c52b0
                    try clear c52b1
                    try clear c53
                    try clear c54
                    try clear hcz14_0
                    try clear hcz14_1
                    try clear hcz14_2
                    try clear hcz14_3
                    try clear hcz14_4
                    try clear hcz14_5
                    try clear hcz14_6
                    try clear hcz21_0
                    try clear hcz21_1
                    try clear hcz21_2
                    try clear hcz21_3
                    try clear hcz21_4
                    try clear hcz21_5
                    try clear hcz21_6
                    try clear hcz28_0
                    try clear hcz28_1
                    try clear hcz28_2
                    try clear hcz28_3
                    try clear hcz28_4
                    try clear hcz28_5
                    try clear hcz28_6
                    try clear hcz35_0
                    try clear hcz35_1
                    try clear hcz35_2
                    try clear hcz35_3
                    try clear hcz35_4
                    try clear hcz35_5
                    try clear hcz35_6
                    try clear hcz42_0
                    try clear hcz42_1
                    try clear hcz42_2
                    try clear hcz42_3
                    try clear hcz42_4
                    try clear hcz42_5
                    try clear hcz42_6
                    try clear hcz48_0
                    try clear hcz48_1
                    try clear hcz48_2
                    try clear hcz48_3
                    try clear hcz48_4
                    try clear hcz48_5
                    try clear hcz48_6
                    try clear hcz50_0
                    try clear hcz50_1
                    try clear hcz50_2
                    try clear hcz50_3
                    try clear hcz50_4
                    try clear hcz50_5
                    try clear hcz50_6
                    try clear hcz55_0
                    try clear hcz55_1
                    try clear hcz55_2
                    try clear hcz55_3
                    try clear hcz55_4
                    try clear hcz55_5
                    try clear hcz55_6
                    try clear hfz14_0
                    try clear hfz14_1
                    try clear hfz14_2
                    try clear hfz14_3
                    try clear hfz14_4
                    try clear hfz14_5
                    try clear hfz14_6
                    try clear hfz21_0
                    try clear hfz21_1
                    try clear hfz21_2
                    try clear hfz21_3
                    try clear hfz21_4
                    try clear hfz21_5
                    try clear hfz21_6
                    try clear hfz28_0
                    try clear hfz28_1
                    try clear hfz28_2
                    try clear hfz28_3
                    try clear hfz28_4
                    try clear hfz28_5
                    try clear hfz28_6
                    try clear hfz35_0
                    try clear hfz35_1
                    try clear hfz35_2
                    try clear hfz35_3
                    try clear hfz35_4
                    try clear hfz35_5
                    try clear hfz35_6
                    try clear hfz42_0
                    try clear hfz42_1
                    try clear hfz42_2
                    try clear hfz42_3
                    try clear hfz42_4
                    try clear hfz42_5
                    try clear hfz42_6
                    try clear hfz48_0
                    try clear hfz48_1
                    try clear hfz48_2
                    try clear hfz48_3
                    try clear hfz48_4
                    try clear hfz48_5
                    try clear hfz48_6
                    try clear hfz50_0
                    try clear hfz50_1
                    try clear hfz50_2
                    try clear hfz50_3
                    try clear hfz50_4
                    try clear hfz50_5
                    try clear hfz50_6
                    try clear hfz55_0
                    try clear hfz55_1
                    try clear hfz55_2
                    try clear hfz55_3
                    try clear hfz55_4
                    try clear hfz55_5
                    try clear hfz55_6
                    try clear p2
                    try clear p6
                    obtain ⟨kq, x245000_44, HA, HJ44, BK234, BK244, HI0, HK, HB⟩ := hcut
                    cases kq with
                    | zero => exact absurd HA.out (by simp [spec_l7Slot.j4])
                    | succ kj44 =>
                      have H := HA.out
                      clear HA
                      simp only [spec_l7Slot.j4] at H
                      have HC56 := Aside0.mk H
                      clear H
                      go_upto_if 52 with (fail)
                      go_cut [] (fun wc => ∃ (kq : Nat) (x1001_55 : Int) (x245000_55 : Int), Aside0 (spec_l7Slot.j5 kq t256 s0_0 x1001_55 x245000_55 x245001_28 x245002_35 t239 t240 t241 t242 = some (r1, r2, r3, r4, r5, r6, r7, r8)) ∧ Aside0 (kq ≤ kj44) ∧ Aside0 (wc.heap[gb234]? = some (.cells #[.int .u64 0, .int .u64 0, .int .u64 0, .int .u64 0, .int .u64 0, .int .u64 0, .int .u64 0] 30 (0, 0))) ∧ Aside0 (wc.heap[gb244]? = some (.cells #[.int .u64 x245000_55, .int .u64 x245001_28, .int .u64 x245002_35, .int .u64 t239, .int .u64 t240, .int .u64 t241, .int .u64 t242] 30 (0, 0))) ∧ Aside0 (IsS123 w0 wc g s0_0 x1001_55) ∧ Aside0 (KeepBut w wc g none) ∧ Aside0 (Below w0.heap.size w0 wc))
                      case first =>
                        have H := HC56.out
                        clear HC56
                        by_cases c57 : t256 = 1
                        · rw [if_pos c57] at H
                          have c57b0 : (t256 == 1) = true := beq_iff_eq.mpr c57
                          have c57b1 : (t256 != 1) = false := bne_eq_false_iff_eq.mpr c57
                          clear c57
                          (first | rw [c57b0] | (simp only [i64_w, i32_w]; rw [c57b0]) | skip)
                          replace H := Option.bind_eq_some_iff.mp H
                          obtain ⟨⟨t258, t259⟩, A580, H⟩ := H
                          replace H : (spec_l7Slot.j5 kj44 t256 s0_0 t259 t258 x245001_28 x245002_35 t239 t240 t241 t242) = some (r1, r2, r3, r4, r5, r6, r7, r8) := H
                          have A58 := Aside0.mk A580
                          clear A580
                          have H' := Aside0.mk H
                          clear H
                          go_wp2_with (first | ((with_reducible refine gate_callee (f := 81) rfl ?_); refine goesL_ (some 54) rfl rfl Try.func81 (by kernel_rfl) rfl #[.pointer (some ⟨g, 0, none⟩)] rfl (by (try simp only [List.map_toArray, List.map_cons, List.map_nil]); first | done | rfl | (simp only [List.length_drop, List.length_take]; rfl)) ?_; (with_reducible refine (spec_l1Rd_word.calls kj44 g s0_0 t257 t258 t259 w0 _ ?side1 ?side2 A58.out).mono ?_); (case side1 => repeat (first | (with_reducible first | exact HI0.out | apply IsS123.alloc | apply IsS123.drewN | apply IsS123.drew | apply IsS123.set_1 | refine IsS123.far ?_ NB0_234.out _ | refine IsS123.far ?_ NB0_244.out _) | exact HI0.out)); (case side2 => repeat (first | (with_reducible first | exact HB.out | apply below_alloc | apply pw_below_drewN | apply below_drew1 | refine below_set ?_ (IsS123.ge HI0.out) | refine below_set ?_ GE234.out | refine below_set ?_ GE244.out) | exact HB.out)); rintro e w59 ⟨rfl, hi, hb, hk⟩; refine ⟨_, rfl, ?_⟩; have n0_ := Aside0.mk (KeepBut.blk hk (g' := gb234) (o := .cells #[.int .u64 0, .int .u64 0, .int .u64 0, .int .u64 0, .int .u64 0, .int .u64 0, .int .u64 0] 30 (0, 0)) (by (with_reducible repeat (first | refine blk_drewN ?_ _ | refine blk_drew ?_ | refine blk_alloc ?_ _)); exact BK234.out) NB234_0.out (by simp)); have n1_ := Aside0.mk (KeepBut.blk hk (g' := gb244) (o := .cells #[.int .u64 x245000_44, .int .u64 x245001_28, .int .u64 x245002_35, .int .u64 t239, .int .u64 t240, .int .u64 t241, .int .u64 t242] 30 (0, 0)) (by (with_reducible repeat (first | refine blk_drewN ?_ _ | refine blk_drew ?_ | refine blk_alloc ?_ _)); exact BK244.out) NB244_0.out (by simp)); have n2_ := Aside0.mk (KeepBut.trans (by repeat (first | (with_reducible first | exact HK.out | apply KeepBut.set_ | apply keep_drewN | apply keep_drew | apply keep_alloc | refine keep_far ?_ GW234.out _ | refine keep_far ?_ GW244.out _) | exact HK.out)) hk (.inl rfl)); have n3_ := Aside0.mk (hb); have n4_ := Aside0.mk (hi); clear BK234; clear BK244; clear HK; clear HB; clear HI0; have BK234 := n0_; have BK244 := n1_; have HK := n2_; have HB := n3_; have HI0 := n4_; clear n0_ n1_ n2_ n3_ n4_; (try clear hb); (try clear hb2); (try clear hk); (try clear hi); have hnb60 := NB244_234.out; have hnc60 := NB234_244.out; have hnb61 := NB244_0.out; have hnc61 := NB0_244.out; have hcz62_0 : w59.cell? ⟨gb244, 0, none⟩ = some (.int .u64 x245000_44) := (blk_cell BK244.out 0).trans rfl; have hcz62_1 : w59.cell? ⟨gb244, 1, none⟩ = some (.int .u64 x245001_28) := (blk_cell BK244.out 1).trans rfl; have hcz62_2 : w59.cell? ⟨gb244, 2, none⟩ = some (.int .u64 x245002_35) := (blk_cell BK244.out 2).trans rfl; have hcz62_3 : w59.cell? ⟨gb244, 3, none⟩ = some (.int .u64 t239) := (blk_cell BK244.out 3).trans rfl; have hcz62_4 : w59.cell? ⟨gb244, 4, none⟩ = some (.int .u64 t240) := (blk_cell BK244.out 4).trans rfl; have hcz62_5 : w59.cell? ⟨gb244, 5, none⟩ = some (.int .u64 t241) := (blk_cell BK244.out 5).trans rfl; have hcz62_6 : w59.cell? ⟨gb244, 6, none⟩ = some (.int .u64 t242) := (blk_cell BK244.out 6).trans rfl; have hfz62_0 := blk_frozen BK244.out 0; have hfz62_1 := blk_frozen BK244.out 1; have hfz62_2 := blk_frozen BK244.out 2; have hfz62_3 := blk_frozen BK244.out 3; have hfz62_4 := blk_frozen BK244.out 4; have hfz62_5 := blk_frozen BK244.out 5; have hfz62_6 := blk_frozen BK244.out 6))
                          go_meet
                          case rel => exact ⟨_, (t259), (t258), H', ⟨by have := HJ5.out; have := HJ21.out; have := HJ28.out; have := HJ35.out; have := HJ44.out; first | omega | exact Nat.le_refl _⟩, ⟨by (with_reducible repeat (first | refine blk_drewN ?_ _ | refine blk_drew ?_ | refine blk_alloc ?_ _)); refine blk_far ?_ NB234_244.out _; (with_reducible repeat (first | refine blk_drewN ?_ _ | refine blk_drew ?_ | refine blk_alloc ?_ _)); exact BK234.out⟩, ⟨by (with_reducible repeat (first | refine blk_drewN ?_ _ | refine blk_drew ?_ | refine blk_alloc ?_ _)); refine blk_put (cs := #[.int .u64 x245000_44, .int .u64 x245001_28, .int .u64 x245002_35, .int .u64 t239, .int .u64 t240, .int .u64 t241, .int .u64 t242]) ?_ 0 _ rfl; (with_reducible repeat (first | refine blk_drewN ?_ _ | refine blk_drew ?_ | refine blk_alloc ?_ _)); exact BK244.out⟩, ⟨by repeat (first | (with_reducible first | exact HI0.out | apply IsS123.alloc | apply IsS123.drewN | apply IsS123.drew | apply IsS123.set_1 | refine IsS123.far ?_ NB0_234.out _ | refine IsS123.far ?_ NB0_244.out _) | exact HI0.out)⟩, ⟨by repeat (first | (with_reducible first | exact HK.out | apply KeepBut.set_ | apply keep_drewN | apply keep_drew | apply keep_alloc | refine keep_far ?_ GW234.out _ | refine keep_far ?_ GW244.out _) | exact HK.out)⟩, ⟨by repeat (first | (with_reducible first | exact HB.out | apply below_alloc | apply pw_below_drewN | apply below_drew1 | refine below_set ?_ (IsS123.ge HI0.out) | refine below_set ?_ GE234.out | refine below_set ?_ GE244.out) | exact HB.out)⟩⟩
                        · rw [if_neg c57] at H
                          have c57b0 : (t256 == 1) = false := beq_eq_false_iff_ne.mpr c57
                          have c57b1 : (t256 != 1) = true := bne_iff_ne.mpr c57
                          (first | rw [c57b0] | (simp only [i64_w, i32_w]; rw [c57b0]) | skip)
                          have H' := Aside0.mk H
                          clear H
                          go_wp2
                          go_meet
                          case rel => exact ⟨_, (t257), (x245000_44), H', ⟨by have := HJ5.out; have := HJ21.out; have := HJ28.out; have := HJ35.out; have := HJ44.out; first | omega | exact Nat.le_refl _⟩, ⟨by (with_reducible repeat (first | refine blk_drewN ?_ _ | refine blk_drew ?_ | refine blk_alloc ?_ _)); exact BK234.out⟩, ⟨by (with_reducible repeat (first | refine blk_drewN ?_ _ | refine blk_drew ?_ | refine blk_alloc ?_ _)); exact BK244.out⟩, ⟨by repeat (first | (with_reducible first | exact HI0.out | apply IsS123.alloc | apply IsS123.drewN | apply IsS123.drew | apply IsS123.set_1 | refine IsS123.far ?_ NB0_234.out _ | refine IsS123.far ?_ NB0_244.out _) | exact HI0.out)⟩, ⟨by repeat (first | (with_reducible first | exact HK.out | apply KeepBut.set_ | apply keep_drewN | apply keep_drew | apply keep_alloc | refine keep_far ?_ GW234.out _ | refine keep_far ?_ GW244.out _) | exact HK.out)⟩, ⟨by repeat (first | (with_reducible first | exact HB.out | apply below_alloc | apply pw_below_drewN | apply below_drew1 | refine below_set ?_ (IsS123.ge HI0.out) | refine below_set ?_ GE234.out | refine below_set ?_ GE244.out) | exact HB.out)⟩⟩
                      case rest =>
                        clear HC56
                        try clear c1
                        try clear c2
                        try clear p2
                        try clear c3
                        try clear c4
                        try clear c5
                        try clear c6
                        try clear p6
                        try clear c7
                        try clear c8
                        try clear c12
                        try clear c13
                        try clear c16
                        try clear c16b0
                        try clear c16b1
                        try clear c19
                        try clear c20
                        try clear c23
                        try clear c23b0
                        try clear c23b1
                        try clear c26
                        try clear c27
                        try clear c30
                        try clear c30b0
                        try clear c30b1
                        try clear c33
                        try clear c34
                        try clear c37
                        try clear c37b0
                        try clear c37b1
                        try clear c40
                        try clear c41
                        try clear c46
                        try clear c47
                        try clear c52
                        try clear c52b0
                        try clear c52b1
                        try clear c53
                        try clear c54
                        try clear c57
                        try clear c57b0
                        try clear c57b1
                        try clear c60
                        try clear c61
                        try clear hcz14_0
                        try clear hcz14_1
                        try clear hcz14_2
                        try clear hcz14_3
                        try clear hcz14_4
                        try clear hcz14_5
                        try clear hcz14_6
                        try clear hcz21_0
                        try clear hcz21_1
                        try clear hcz21_2
                        try clear hcz21_3
                        try clear hcz21_4
                        try clear hcz21_5
                        try clear hcz21_6
                        try clear hcz28_0
                        try clear hcz28_1
                        try clear hcz28_2
                        try clear hcz28_3
                        try clear hcz28_4
                        try clear hcz28_5
                        try clear hcz28_6
                        try clear hcz35_0
                        try clear hcz35_1
                        try clear hcz35_2
                        try clear hcz35_3
                        try clear hcz35_4
                        try clear hcz35_5
                        try clear hcz35_6
                        try clear hcz42_0
                        try clear hcz42_1
                        try clear hcz42_2
                        try clear hcz42_3
                        try clear hcz42_4
                        try clear hcz42_5
                        try clear hcz42_6
                        try clear hcz48_0
                        try clear hcz48_1
                        try clear hcz48_2
                        try clear hcz48_3
                        try clear hcz48_4
                        try clear hcz48_5
                        try clear hcz48_6
                        try clear hcz50_0
                        try clear hcz50_1
                        try clear hcz50_2
                        try clear hcz50_3
                        try clear hcz50_4
                        try clear hcz50_5
                        try clear hcz50_6
                        try clear hcz55_0
                        try clear hcz55_1
                        try clear hcz55_2
                        try clear hcz55_3
                        try clear hcz55_4
                        try clear hcz55_5
                        try clear hcz55_6
                        try clear hcz62_0
                        try clear hcz62_1
                        try clear hcz62_2
                        try clear hcz62_3
                        try clear hcz62_4
                        try clear hcz62_5
                        try clear hcz62_6
                        try clear hfz14_0
                        try clear hfz14_1
                        try clear hfz14_2
                        try clear hfz14_3
                        try clear hfz14_4
                        try clear hfz14_5
                        try clear hfz14_6
                        try clear hfz21_0
                        try clear hfz21_1
                        try clear hfz21_2
                        try clear hfz21_3
                        try clear hfz21_4
                        try clear hfz21_5
                        try clear hfz21_6
                        try clear hfz28_0
                        try clear hfz28_1
                        try clear hfz28_2
                        try clear hfz28_3
                        try clear hfz28_4
                        try clear hfz28_5
                        try clear hfz28_6
                        try clear hfz35_0
                        try clear hfz35_1
                        try clear hfz35_2
                        try clear hfz35_3
                        try clear hfz35_4
                        try clear hfz35_5
                        try clear hfz35_6
                        try clear hfz42_0
                        try clear hfz42_1
                        try clear hfz42_2
                        try clear hfz42_3
                        try clear hfz42_4
                        try clear hfz42_5
                        try clear hfz42_6
                        try clear hfz48_0
                        try clear hfz48_1
                        try clear hfz48_2
                        try clear hfz48_3
                        try clear hfz48_4
                        try clear hfz48_5
                        try clear hfz48_6
                        try clear hfz50_0
                        try clear hfz50_1
                        try clear hfz50_2
                        try clear hfz50_3
                        try clear hfz50_4
                        try clear hfz50_5
                        try clear hfz50_6
                        try clear hfz55_0
                        try clear hfz55_1
                        try clear hfz55_2
                        try clear hfz55_3
                        try clear hfz55_4
                        try clear hfz55_5
                        try clear hfz55_6
                        try clear hfz62_0
                        try clear hfz62_1
                        try clear hfz62_2
                        try clear hfz62_3
                        try clear hfz62_4
                        try clear hfz62_5
                        try clear hfz62_6
                        try clear p2
                        try clear p6
                        obtain ⟨kq, x1001_55, x245000_55, HA, HJ55, BK234, BK244, HI0, HK, HB⟩ := hcut
                        cases kq with
                        | zero => exact absurd HA.out (by simp [spec_l7Slot.j5])
                        | succ kj55 =>
                          have H := HA.out
                          clear HA
                          simp only [spec_l7Slot.j5] at H
                          by_cases c63 : t256 = 2
                          · rw [if_pos c63] at H
                            have c63b0 : (t256 == 2) = true := beq_iff_eq.mpr c63
                            have c63b1 : (t256 != 2) = false := bne_eq_false_iff_eq.mpr c63
                            clear c63
                            by_cases c64 : t256 = 3
                            · exact absurd (c64.symm.trans (beq_iff_eq.mp c63b0)) (by decide)
                            · rw [if_neg c64] at H
                              have c64b0 : (t256 == 3) = false := beq_eq_false_iff_ne.mpr c64
                              have c64b1 : (t256 != 3) = true := bne_iff_ne.mpr c64
                              simp only [Option.some.injEq, Prod.mk.injEq] at H
                              obtain ⟨rfl, rfl, rfl, rfl, rfl, rfl, rfl, rfl⟩ := H
                              have hnb70 := NB244_234.out
                              have hnc70 := NB234_244.out
                              have hnb71 := NB244_0.out
                              have hnc71 := NB0_244.out
                              have hcz72_0 : wc.cell? ⟨gb244, 0, none⟩ = some (.int .u64 x245000_55) := (blk_cell BK244.out 0).trans rfl
                              have hcz72_1 : wc.cell? ⟨gb244, 1, none⟩ = some (.int .u64 x245001_28) := (blk_cell BK244.out 1).trans rfl
                              have hcz72_2 : wc.cell? ⟨gb244, 2, none⟩ = some (.int .u64 x245002_35) := (blk_cell BK244.out 2).trans rfl
                              have hcz72_3 : wc.cell? ⟨gb244, 3, none⟩ = some (.int .u64 t239) := (blk_cell BK244.out 3).trans rfl
                              have hcz72_4 : wc.cell? ⟨gb244, 4, none⟩ = some (.int .u64 t240) := (blk_cell BK244.out 4).trans rfl
                              have hcz72_5 : wc.cell? ⟨gb244, 5, none⟩ = some (.int .u64 t241) := (blk_cell BK244.out 5).trans rfl
                              have hcz72_6 : wc.cell? ⟨gb244, 6, none⟩ = some (.int .u64 t242) := (blk_cell BK244.out 6).trans rfl
                              have hfz72_0 := blk_frozen BK244.out 0
                              have hfz72_1 := blk_frozen BK244.out 1
                              have hfz72_2 := blk_frozen BK244.out 2
                              have hfz72_3 := blk_frozen BK244.out 3
                              have hfz72_4 := blk_frozen BK244.out 4
                              have hfz72_5 := blk_frozen BK244.out 5
                              have hfz72_6 := blk_frozen BK244.out 6
                              have hnb73 := NB234_0.out
                              have hnc73 := NB0_234.out
                              have hcz74_0 : wc.cell? ⟨gb234, 0, none⟩ = some (.int .u64 0) := (blk_cell BK234.out 0).trans rfl
                              have hcz74_1 : wc.cell? ⟨gb234, 1, none⟩ = some (.int .u64 0) := (blk_cell BK234.out 1).trans rfl
                              have hcz74_2 : wc.cell? ⟨gb234, 2, none⟩ = some (.int .u64 0) := (blk_cell BK234.out 2).trans rfl
                              have hcz74_3 : wc.cell? ⟨gb234, 3, none⟩ = some (.int .u64 0) := (blk_cell BK234.out 3).trans rfl
                              have hcz74_4 : wc.cell? ⟨gb234, 4, none⟩ = some (.int .u64 0) := (blk_cell BK234.out 4).trans rfl
                              have hcz74_5 : wc.cell? ⟨gb234, 5, none⟩ = some (.int .u64 0) := (blk_cell BK234.out 5).trans rfl
                              have hcz74_6 : wc.cell? ⟨gb234, 6, none⟩ = some (.int .u64 0) := (blk_cell BK234.out 6).trans rfl
                              have hfz74_0 := blk_frozen BK234.out 0
                              have hfz74_1 := blk_frozen BK234.out 1
                              have hfz74_2 := blk_frozen BK234.out 2
                              have hfz74_3 := blk_frozen BK234.out 3
                              have hfz74_4 := blk_frozen BK234.out 4
                              have hfz74_5 := blk_frozen BK234.out 5
                              have hfz74_6 := blk_frozen BK234.out 6
                              go_wp2
                              refine bodyPost_ret (results_cell_row rfl _ _ gb234 30 #[.int .u64 0, .int .u64 0, .int .u64 0, .int .u64 0, .int .u64 0, .int .u64 0, .int .u64 0] (0, 0) _ rfl ?hblk Try.underlying30 rfl (by kernel_rfl)) rfl ?_
                              case hblk => (with_reducible repeat (first | refine blk_drewN ?_ _ | refine blk_drew ?_ | refine blk_alloc ?_ _)); refine blk_put (cs := #[.int .u64 0, .int .u64 0, .int .u64 0, .int .u64 0, .int .u64 0, .int .u64 0, .int .u64 0]) ?_ 6 _ rfl; (with_reducible repeat (first | refine blk_drewN ?_ _ | refine blk_drew ?_ | refine blk_alloc ?_ _)); refine blk_put (cs := #[.int .u64 0, .int .u64 0, .int .u64 0, .int .u64 0, .int .u64 0, .int .u64 0, .int .u64 0]) ?_ 5 _ rfl; (with_reducible repeat (first | refine blk_drewN ?_ _ | refine blk_drew ?_ | refine blk_alloc ?_ _)); refine blk_put (cs := #[.int .u64 0, .int .u64 0, .int .u64 0, .int .u64 0, .int .u64 0, .int .u64 0, .int .u64 0]) ?_ 4 _ rfl; (with_reducible repeat (first | refine blk_drewN ?_ _ | refine blk_drew ?_ | refine blk_alloc ?_ _)); refine blk_put (cs := #[.int .u64 0, .int .u64 0, .int .u64 0, .int .u64 0, .int .u64 0, .int .u64 0, .int .u64 0]) ?_ 3 _ rfl; (with_reducible repeat (first | refine blk_drewN ?_ _ | refine blk_drew ?_ | refine blk_alloc ?_ _)); refine blk_put (cs := #[.int .u64 0, .int .u64 0, .int .u64 0, .int .u64 0, .int .u64 0, .int .u64 0, .int .u64 0]) ?_ 2 _ rfl; (with_reducible repeat (first | refine blk_drewN ?_ _ | refine blk_drew ?_ | refine blk_alloc ?_ _)); refine blk_put (cs := #[.int .u64 0, .int .u64 0, .int .u64 0, .int .u64 0, .int .u64 0, .int .u64 0, .int .u64 0]) ?_ 1 _ rfl; (with_reducible repeat (first | refine blk_drewN ?_ _ | refine blk_drew ?_ | refine blk_alloc ?_ _)); refine blk_put (cs := #[.int .u64 0, .int .u64 0, .int .u64 0, .int .u64 0, .int .u64 0, .int .u64 0, .int .u64 0]) ?_ 0 _ rfl; (with_reducible repeat (first | refine blk_drewN ?_ _ | refine blk_drew ?_ | refine blk_alloc ?_ _)); refine blk_far ?_ NB234_244.out _; (with_reducible repeat (first | refine blk_drewN ?_ _ | refine blk_drew ?_ | refine blk_alloc ?_ _)); refine blk_far ?_ NB234_244.out _; (with_reducible repeat (first | refine blk_drewN ?_ _ | refine blk_drew ?_ | refine blk_alloc ?_ _)); refine blk_far ?_ NB234_244.out _; (with_reducible repeat (first | refine blk_drewN ?_ _ | refine blk_drew ?_ | refine blk_alloc ?_ _)); refine blk_far ?_ NB234_244.out _; (with_reducible repeat (first | refine blk_drewN ?_ _ | refine blk_drew ?_ | refine blk_alloc ?_ _)); refine blk_far ?_ NB234_244.out _; (with_reducible repeat (first | refine blk_drewN ?_ _ | refine blk_drew ?_ | refine blk_alloc ?_ _)); refine blk_far ?_ NB234_244.out _; (with_reducible repeat (first | refine blk_drewN ?_ _ | refine blk_drew ?_ | refine blk_alloc ?_ _)); refine blk_far ?_ NB234_244.out _; (with_reducible repeat (first | refine blk_drewN ?_ _ | refine blk_drew ?_ | refine blk_alloc ?_ _)); exact BK234.out
                              exact ⟨by first | rfl | (simp [errW_none, errW_some] <;> rfl) | (simp [*, errW_none, errW_some] <;> rfl), by repeat (first | (with_reducible first | exact HI0.out | apply IsS123.alloc | apply IsS123.drewN | apply IsS123.drew | apply IsS123.set_1 | refine IsS123.far ?_ NB0_234.out _ | refine IsS123.far ?_ NB0_244.out _) | exact HI0.out), by repeat (first | (with_reducible first | exact HB.out | apply below_alloc | apply pw_below_drewN | apply below_drew1 | refine below_set ?_ (IsS123.ge HI0.out) | refine below_set ?_ GE234.out | refine below_set ?_ GE244.out) | exact HB.out), by repeat (first | (with_reducible first | exact HK.out | apply KeepBut.set_ | apply keep_drewN | apply keep_drew | apply keep_alloc | refine keep_far ?_ GW234.out _ | refine keep_far ?_ GW244.out _) | exact HK.out)⟩
                          · rw [if_neg c63] at H
                            have c63b0 : (t256 == 2) = false := beq_eq_false_iff_ne.mpr c63
                            have c63b1 : (t256 != 2) = true := bne_iff_ne.mpr c63
                            by_cases c75 : t256 = 3
                            · rw [if_pos c75] at H
                              have c75b0 : (t256 == 3) = true := beq_iff_eq.mpr c75
                              have c75b1 : (t256 != 3) = false := bne_eq_false_iff_eq.mpr c75
                              clear c75
                              simp only [Option.some.injEq, Prod.mk.injEq] at H
                              obtain ⟨rfl, rfl, rfl, rfl, rfl, rfl, rfl, rfl⟩ := H
                              have hnb76 := NB244_234.out
                              have hnc76 := NB234_244.out
                              have hnb77 := NB244_0.out
                              have hnc77 := NB0_244.out
                              have hcz78_0 : wc.cell? ⟨gb244, 0, none⟩ = some (.int .u64 x245000_55) := (blk_cell BK244.out 0).trans rfl
                              have hcz78_1 : wc.cell? ⟨gb244, 1, none⟩ = some (.int .u64 x245001_28) := (blk_cell BK244.out 1).trans rfl
                              have hcz78_2 : wc.cell? ⟨gb244, 2, none⟩ = some (.int .u64 x245002_35) := (blk_cell BK244.out 2).trans rfl
                              have hcz78_3 : wc.cell? ⟨gb244, 3, none⟩ = some (.int .u64 t239) := (blk_cell BK244.out 3).trans rfl
                              have hcz78_4 : wc.cell? ⟨gb244, 4, none⟩ = some (.int .u64 t240) := (blk_cell BK244.out 4).trans rfl
                              have hcz78_5 : wc.cell? ⟨gb244, 5, none⟩ = some (.int .u64 t241) := (blk_cell BK244.out 5).trans rfl
                              have hcz78_6 : wc.cell? ⟨gb244, 6, none⟩ = some (.int .u64 t242) := (blk_cell BK244.out 6).trans rfl
                              have hfz78_0 := blk_frozen BK244.out 0
                              have hfz78_1 := blk_frozen BK244.out 1
                              have hfz78_2 := blk_frozen BK244.out 2
                              have hfz78_3 := blk_frozen BK244.out 3
                              have hfz78_4 := blk_frozen BK244.out 4
                              have hfz78_5 := blk_frozen BK244.out 5
                              have hfz78_6 := blk_frozen BK244.out 6
                              have hnb79 := NB234_0.out
                              have hnc79 := NB0_234.out
                              have hcz80_0 : wc.cell? ⟨gb234, 0, none⟩ = some (.int .u64 0) := (blk_cell BK234.out 0).trans rfl
                              have hcz80_1 : wc.cell? ⟨gb234, 1, none⟩ = some (.int .u64 0) := (blk_cell BK234.out 1).trans rfl
                              have hcz80_2 : wc.cell? ⟨gb234, 2, none⟩ = some (.int .u64 0) := (blk_cell BK234.out 2).trans rfl
                              have hcz80_3 : wc.cell? ⟨gb234, 3, none⟩ = some (.int .u64 0) := (blk_cell BK234.out 3).trans rfl
                              have hcz80_4 : wc.cell? ⟨gb234, 4, none⟩ = some (.int .u64 0) := (blk_cell BK234.out 4).trans rfl
                              have hcz80_5 : wc.cell? ⟨gb234, 5, none⟩ = some (.int .u64 0) := (blk_cell BK234.out 5).trans rfl
                              have hcz80_6 : wc.cell? ⟨gb234, 6, none⟩ = some (.int .u64 0) := (blk_cell BK234.out 6).trans rfl
                              have hfz80_0 := blk_frozen BK234.out 0
                              have hfz80_1 := blk_frozen BK234.out 1
                              have hfz80_2 := blk_frozen BK234.out 2
                              have hfz80_3 := blk_frozen BK234.out 3
                              have hfz80_4 := blk_frozen BK234.out 4
                              have hfz80_5 := blk_frozen BK234.out 5
                              have hfz80_6 := blk_frozen BK234.out 6
                              go_wp2
                              refine bodyPost_ret (results_cell_row rfl _ _ gb234 30 #[.int .u64 x245000_55, .int .u64 x245001_28, .int .u64 x245002_35, .int .u64 t239, .int .u64 (IntKind.u64.wrap (t240 + 1)), .int .u64 t241, .int .u64 t242] (0, 0) _ rfl ?hblk Try.underlying30 rfl (by kernel_rfl)) rfl ?_
                              case hblk => (with_reducible repeat (first | refine blk_drewN ?_ _ | refine blk_drew ?_ | refine blk_alloc ?_ _)); refine blk_put (cs := #[.int .u64 x245000_55, .int .u64 x245001_28, .int .u64 x245002_35, .int .u64 t239, .int .u64 (IntKind.u64.wrap (t240 + 1)), .int .u64 t241, .int .u64 0]) ?_ 6 _ rfl; (with_reducible repeat (first | refine blk_drewN ?_ _ | refine blk_drew ?_ | refine blk_alloc ?_ _)); refine blk_put (cs := #[.int .u64 x245000_55, .int .u64 x245001_28, .int .u64 x245002_35, .int .u64 t239, .int .u64 (IntKind.u64.wrap (t240 + 1)), .int .u64 0, .int .u64 0]) ?_ 5 _ rfl; (with_reducible repeat (first | refine blk_drewN ?_ _ | refine blk_drew ?_ | refine blk_alloc ?_ _)); refine blk_put (cs := #[.int .u64 x245000_55, .int .u64 x245001_28, .int .u64 x245002_35, .int .u64 t239, .int .u64 0, .int .u64 0, .int .u64 0]) ?_ 4 _ rfl; (with_reducible repeat (first | refine blk_drewN ?_ _ | refine blk_drew ?_ | refine blk_alloc ?_ _)); refine blk_put (cs := #[.int .u64 x245000_55, .int .u64 x245001_28, .int .u64 x245002_35, .int .u64 0, .int .u64 0, .int .u64 0, .int .u64 0]) ?_ 3 _ rfl; (with_reducible repeat (first | refine blk_drewN ?_ _ | refine blk_drew ?_ | refine blk_alloc ?_ _)); refine blk_put (cs := #[.int .u64 x245000_55, .int .u64 x245001_28, .int .u64 0, .int .u64 0, .int .u64 0, .int .u64 0, .int .u64 0]) ?_ 2 _ rfl; (with_reducible repeat (first | refine blk_drewN ?_ _ | refine blk_drew ?_ | refine blk_alloc ?_ _)); refine blk_put (cs := #[.int .u64 x245000_55, .int .u64 0, .int .u64 0, .int .u64 0, .int .u64 0, .int .u64 0, .int .u64 0]) ?_ 1 _ rfl; (with_reducible repeat (first | refine blk_drewN ?_ _ | refine blk_drew ?_ | refine blk_alloc ?_ _)); refine blk_put (cs := #[.int .u64 0, .int .u64 0, .int .u64 0, .int .u64 0, .int .u64 0, .int .u64 0, .int .u64 0]) ?_ 0 _ rfl; (with_reducible repeat (first | refine blk_drewN ?_ _ | refine blk_drew ?_ | refine blk_alloc ?_ _)); refine blk_far ?_ NB234_244.out _; (with_reducible repeat (first | refine blk_drewN ?_ _ | refine blk_drew ?_ | refine blk_alloc ?_ _)); exact BK234.out
                              exact ⟨by first | rfl | (simp [errW_none, errW_some] <;> rfl) | (simp [*, errW_none, errW_some] <;> rfl), by repeat (first | (with_reducible first | exact HI0.out | apply IsS123.alloc | apply IsS123.drewN | apply IsS123.drew | apply IsS123.set_1 | refine IsS123.far ?_ NB0_234.out _ | refine IsS123.far ?_ NB0_244.out _) | exact HI0.out), by repeat (first | (with_reducible first | exact HB.out | apply below_alloc | apply pw_below_drewN | apply below_drew1 | refine below_set ?_ (IsS123.ge HI0.out) | refine below_set ?_ GE234.out | refine below_set ?_ GE244.out) | exact HB.out), by repeat (first | (with_reducible first | exact HK.out | apply KeepBut.set_ | apply keep_drewN | apply keep_drew | apply keep_alloc | refine keep_far ?_ GW234.out _ | refine keep_far ?_ GW244.out _) | exact HK.out)⟩
                            · rw [if_neg c75] at H
                              have c75b0 : (t256 == 3) = false := beq_eq_false_iff_ne.mpr c75
                              have c75b1 : (t256 != 3) = true := bne_iff_ne.mpr c75
                              simp only [Option.some.injEq, Prod.mk.injEq] at H
                              obtain ⟨rfl, rfl, rfl, rfl, rfl, rfl, rfl, rfl⟩ := H
                              have hnb81 := NB244_234.out
                              have hnc81 := NB234_244.out
                              have hnb82 := NB244_0.out
                              have hnc82 := NB0_244.out
                              have hcz83_0 : wc.cell? ⟨gb244, 0, none⟩ = some (.int .u64 x245000_55) := (blk_cell BK244.out 0).trans rfl
                              have hcz83_1 : wc.cell? ⟨gb244, 1, none⟩ = some (.int .u64 x245001_28) := (blk_cell BK244.out 1).trans rfl
                              have hcz83_2 : wc.cell? ⟨gb244, 2, none⟩ = some (.int .u64 x245002_35) := (blk_cell BK244.out 2).trans rfl
                              have hcz83_3 : wc.cell? ⟨gb244, 3, none⟩ = some (.int .u64 t239) := (blk_cell BK244.out 3).trans rfl
                              have hcz83_4 : wc.cell? ⟨gb244, 4, none⟩ = some (.int .u64 t240) := (blk_cell BK244.out 4).trans rfl
                              have hcz83_5 : wc.cell? ⟨gb244, 5, none⟩ = some (.int .u64 t241) := (blk_cell BK244.out 5).trans rfl
                              have hcz83_6 : wc.cell? ⟨gb244, 6, none⟩ = some (.int .u64 t242) := (blk_cell BK244.out 6).trans rfl
                              have hfz83_0 := blk_frozen BK244.out 0
                              have hfz83_1 := blk_frozen BK244.out 1
                              have hfz83_2 := blk_frozen BK244.out 2
                              have hfz83_3 := blk_frozen BK244.out 3
                              have hfz83_4 := blk_frozen BK244.out 4
                              have hfz83_5 := blk_frozen BK244.out 5
                              have hfz83_6 := blk_frozen BK244.out 6
                              have hnb84 := NB234_0.out
                              have hnc84 := NB0_234.out
                              have hcz85_0 : wc.cell? ⟨gb234, 0, none⟩ = some (.int .u64 0) := (blk_cell BK234.out 0).trans rfl
                              have hcz85_1 : wc.cell? ⟨gb234, 1, none⟩ = some (.int .u64 0) := (blk_cell BK234.out 1).trans rfl
                              have hcz85_2 : wc.cell? ⟨gb234, 2, none⟩ = some (.int .u64 0) := (blk_cell BK234.out 2).trans rfl
                              have hcz85_3 : wc.cell? ⟨gb234, 3, none⟩ = some (.int .u64 0) := (blk_cell BK234.out 3).trans rfl
                              have hcz85_4 : wc.cell? ⟨gb234, 4, none⟩ = some (.int .u64 0) := (blk_cell BK234.out 4).trans rfl
                              have hcz85_5 : wc.cell? ⟨gb234, 5, none⟩ = some (.int .u64 0) := (blk_cell BK234.out 5).trans rfl
                              have hcz85_6 : wc.cell? ⟨gb234, 6, none⟩ = some (.int .u64 0) := (blk_cell BK234.out 6).trans rfl
                              have hfz85_0 := blk_frozen BK234.out 0
                              have hfz85_1 := blk_frozen BK234.out 1
                              have hfz85_2 := blk_frozen BK234.out 2
                              have hfz85_3 := blk_frozen BK234.out 3
                              have hfz85_4 := blk_frozen BK234.out 4
                              have hfz85_5 := blk_frozen BK234.out 5
                              have hfz85_6 := blk_frozen BK234.out 6
                              go_wp2
                              refine bodyPost_ret (results_cell_row rfl _ _ gb234 30 #[.int .u64 x245000_55, .int .u64 x245001_28, .int .u64 x245002_35, .int .u64 t239, .int .u64 t240, .int .u64 t241, .int .u64 t242] (0, 0) _ rfl ?hblk Try.underlying30 rfl (by kernel_rfl)) rfl ?_
                              case hblk => (with_reducible repeat (first | refine blk_drewN ?_ _ | refine blk_drew ?_ | refine blk_alloc ?_ _)); refine blk_put (cs := #[.int .u64 x245000_55, .int .u64 x245001_28, .int .u64 x245002_35, .int .u64 t239, .int .u64 t240, .int .u64 t241, .int .u64 0]) ?_ 6 _ rfl; (with_reducible repeat (first | refine blk_drewN ?_ _ | refine blk_drew ?_ | refine blk_alloc ?_ _)); refine blk_put (cs := #[.int .u64 x245000_55, .int .u64 x245001_28, .int .u64 x245002_35, .int .u64 t239, .int .u64 t240, .int .u64 0, .int .u64 0]) ?_ 5 _ rfl; (with_reducible repeat (first | refine blk_drewN ?_ _ | refine blk_drew ?_ | refine blk_alloc ?_ _)); refine blk_put (cs := #[.int .u64 x245000_55, .int .u64 x245001_28, .int .u64 x245002_35, .int .u64 t239, .int .u64 0, .int .u64 0, .int .u64 0]) ?_ 4 _ rfl; (with_reducible repeat (first | refine blk_drewN ?_ _ | refine blk_drew ?_ | refine blk_alloc ?_ _)); refine blk_put (cs := #[.int .u64 x245000_55, .int .u64 x245001_28, .int .u64 x245002_35, .int .u64 0, .int .u64 0, .int .u64 0, .int .u64 0]) ?_ 3 _ rfl; (with_reducible repeat (first | refine blk_drewN ?_ _ | refine blk_drew ?_ | refine blk_alloc ?_ _)); refine blk_put (cs := #[.int .u64 x245000_55, .int .u64 x245001_28, .int .u64 0, .int .u64 0, .int .u64 0, .int .u64 0, .int .u64 0]) ?_ 2 _ rfl; (with_reducible repeat (first | refine blk_drewN ?_ _ | refine blk_drew ?_ | refine blk_alloc ?_ _)); refine blk_put (cs := #[.int .u64 x245000_55, .int .u64 0, .int .u64 0, .int .u64 0, .int .u64 0, .int .u64 0, .int .u64 0]) ?_ 1 _ rfl; (with_reducible repeat (first | refine blk_drewN ?_ _ | refine blk_drew ?_ | refine blk_alloc ?_ _)); refine blk_put (cs := #[.int .u64 0, .int .u64 0, .int .u64 0, .int .u64 0, .int .u64 0, .int .u64 0, .int .u64 0]) ?_ 0 _ rfl; (with_reducible repeat (first | refine blk_drewN ?_ _ | refine blk_drew ?_ | refine blk_alloc ?_ _)); exact BK234.out
                              exact ⟨by first | rfl | (simp [errW_none, errW_some] <;> rfl) | (simp [*, errW_none, errW_some] <;> rfl), by repeat (first | (with_reducible first | exact HI0.out | apply IsS123.alloc | apply IsS123.drewN | apply IsS123.drew | apply IsS123.set_1 | refine IsS123.far ?_ NB0_234.out _ | refine IsS123.far ?_ NB0_244.out _) | exact HI0.out), by repeat (first | (with_reducible first | exact HB.out | apply below_alloc | apply pw_below_drewN | apply below_drew1 | refine below_set ?_ (IsS123.ge HI0.out) | refine below_set ?_ GE234.out | refine below_set ?_ GE244.out) | exact HB.out), by repeat (first | (with_reducible first | exact HK.out | apply KeepBut.set_ | apply keep_drewN | apply keep_drew | apply keep_alloc | refine keep_far ?_ GW234.out _ | refine keep_far ?_ GW244.out _) | exact HK.out)⟩

end Go.Proofs.Ytcgfgodpiobcfaa.V
