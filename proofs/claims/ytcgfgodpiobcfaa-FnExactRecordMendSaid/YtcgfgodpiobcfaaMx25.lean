/- The walk of functions of the given program: what each computes, as a Lean function, and that the code comes to it. Written by a program of this session's. No condition but each theorem's own. -/
import Derived.Test.YtcgfgodpiobcfaaMD
import Derived.Test.YtcgfgodpiobcfaaMx21
import Derived.Test.YtcgfgodpiobcfaaMx24
namespace Go.Proofs.Ytcgfgodpiobcfaa.M
open Go.RowKit Go.Proofs.YtcgfgodpiobcfaaW.PrintWords Go.Proofs.YtcgfgodpiobcfaaW.PrintLast Go.Proofs.YtcgfgodpiobcfaaW.PrintMore
attribute [local go_sem] max2_int min2_int max_two min_two max_three min_three max_four min_four   -- for this text's walks alone
set_option linter.unusedVariables false
set_option linter.unusedSimpArgs false

/-! ### impl_SlotSum: function 18 -/
theorem slot_sum_step (ws : List Int) (j : Nat) (h : j < ws.length) (hw : ws.length ≤ 6) : binary_bigEndian_AppendUint64.f (slot_sum.f ws j) (ws.getD j 0) = some (slot_sum.f ws (j + 1)) := by
  have hl : (slot_sum.f ws j).length = j * 8 := by
    unfold slot_sum.f
    rw [List.length_flatMap]
    have : ((ws.take j).map fun x => (slot_be8.f x).length) = List.replicate j 8 := by
      apply List.ext_getElem
      · simp; omega
      · intro i h1 h2; simp [slot_be8.f]
    rw [this]; simp
  unfold binary_bigEndian_AppendUint64.f
  rw [Option.bind_some, if_pos (by rw [hl]; simp; omega)]
  unfold slot_sum.f
  rw [List.take_succ_eq_append_getElem h, List.flatMap_append, List.getD_eq_getElem?_getD, List.getElem?_eq_getElem h]
  simp [slot_be8.f]
set_option maxHeartbeats 8000000 in
set_option maxRecDepth 100000 in
theorem impl_SlotSum.calls (k : Nat) (a0_0 : Int) (a0_1 : Int) (a0_2 : Int) (a0_3 : Int) (a0_4 : Int) (a0_5 : Int) (a0_6 : Int) (r : Int) (w : World) (h : impl_SlotSum.f k a0_0 a0_1 a0_2 a0_3 a0_4 a0_5 a0_6 = some r) :
    Calls Try.prog 18 #[.agg #[.int .u64 a0_0, .int .u64 a0_1, .int .u64 a0_2, .int .u64 a0_3, .int .u64 a0_4, .int .u64 a0_5, .int .u64 a0_6]] w fun e w' => e = .returned (.int .u64 r) ∧ Below w.heap.size w w' := by
  have hu30 := Try.underlying30
  have hu85 := Try.underlying85
  have HB := Aside0.mk (Below.refl w.heap.size w)
  obtain ⟨⟨d1, d2, d3, d4⟩, A2, H⟩ := Option.bind_eq_some_iff.mp h
  have A2 := Aside0.mk A2
  obtain rfl : Go.bits .or .u64 d1 1 = r := Option.some.inj H
  clear h H
  obtain ⟨ws, hws⟩ : ∃ ws, ws = [a0_1, a0_2, a0_3, a0_4, a0_5, a0_6] := ⟨_, rfl⟩
  have hwl : ws.length = 6 := by rw [hws]; rfl
  rw [← hws] at A2
  have HWS := Aside0.mk hws
  have HWL := Aside0.mk hwl
  clear hws hwl
  go_enter Try.func18, Try.ntmps18
  go_wp2_with (first | ((with_reducible refine gate_dst (N := 1) rfl ?_); refine box_event ?hg (N := 1) ?hd (cs := #[.int .u64 a0_0, .int .u64 a0_1, .int .u64 a0_2, .int .u64 a0_3, .int .u64 a0_4, .int .u64 a0_5, .int .u64 a0_6]) (t := 30) ?hr ?_; (case hd => rfl); (case hg => rfl); (case hr => first | (go_simp; done) | (go_simp; rfl)); intro gb hg w2 hbox hb; have BK := Aside0.mk hbox; have HB2 := Aside0.mk (below_step HB.out hb); have GE := Aside0.mk ((by rw [hg]; exact Nat.le_refl _) : w.heap.size ≤ gb); clear hbox hb hg) | ((with_reducible refine gate_callee (f := 55) rfl ?_); refine goesL_ (some 6) rfl rfl Try.func55 (by kernel_rfl) rfl #[.pointer (some ⟨gb, 0, none⟩)] rfl (by (try simp only [List.map_toArray, List.map_cons, List.map_nil]); first | done | rfl) ?_; (with_reducible refine (words_calls gb 0 _).mono ?_); rintro e w3 ⟨gw, rfl, hwd, hge, hb3⟩; refine ⟨_, rfl, ?_⟩; have BK3 := Aside0.mk (blk_below (g := gb) BK.out hb3); have HW := Aside0.mk hwd; have HB3 := Aside0.mk (below_step HB2.out hb3); have GW := Aside0.mk (Nat.le_trans HB2.out.size hge); have NE := Aside0.mk (show gb ≠ gw from fun e => by have := blk_lt BK.out; omega); clear hwd hge hb3 BK HB2))
  go_loopg [3, 9] 7 (fun kq v3 v9 w' => ∃ j : Nat, v9 = .int .i64 (j : Int) ∧ Aside0 (j ≤ 6) ∧ Aside0 (kq + j = 7) ∧ Aside0 (Kd.R (Kd.int .u8) 5 w' w.heap.size (fun k_ => k_ ≠ gb ∧ k_ ≠ gw) v3 (slot_sum.f ws j)) ∧ Aside0 (w'.heap[gb]? = some (.cells #[.int .u64 a0_0, .int .u64 a0_1, .int .u64 a0_2, .int .u64 a0_3, .int .u64 a0_4, .int .u64 a0_5, .int .u64 a0_6] 30 (0, 0))) ∧ Aside0 (w'.heap[gw]? = some (.cells (wordPtrs gb 0) 87 (0, 0))) ∧ Aside0 (Below w.heap.size w w'))
  case atStart => exact ⟨0, rfl, ⟨by omega⟩, ⟨by omega⟩, ⟨Kd.R_nil _ _ _ _ _⟩, BK3, HW, HB3⟩
  case round =>
    obtain ⟨j, rfl, HJ, HKJ, HO, BKr, HWr, HBr⟩ := hrel
    cases gk with
    | zero => exact absurd HKJ.out (by have := HJ.out; omega)
    | succ k1 =>
      by_cases hj : j < 6
      · have hptr : wr.cell? ⟨gw, 1 + j, none⟩ = some (.pointer (some ⟨gb, j + 1, none⟩)) := by
          refine (blk_cell HWr.out (1 + j)).trans ?_
          rcases j with _ | _ | _ | _ | _ | _ | j
          all_goals first | rfl | omega
        have hword : wr.cell? ⟨gb, j + 1, none⟩ = some (.int .u64 (ws.getD j 0)) := by
          refine (blk_cell BKr.out (j + 1)).trans ?_
          rw [HWS.out]
          rcases j with _ | _ | _ | _ | _ | _ | j
          all_goals first | rfl | omega
        have HS := Aside0.mk (slot_sum_step ws j (by rw [HWL.out]; exact hj) (by rw [HWL.out]; exact Nat.le_refl _))
        have hj1 : decide ((j : Int) < 6) = true := by simp; omega
        have hj0 : decide (0 ≤ (j : Int)) = true := by simp
        go_wp2_with fail
        go_still_tail 5, (by kernel_rfl)
        change wpList _ _ _ _ _ wr.drew
        have HO2 := Aside0.mk (Kd.R_drew HO.out)
        have BK2 := Aside0.mk (blk_drew BKr.out)
        have HW2 := Aside0.mk (blk_drew HWr.out)
        have HB2 := Aside0.mk (below_drew1 HBr.out)
        clear hptr hword HO BKr HWr HBr
        generalize wr.drew = wq at HO2 BK2 HW2 HB2 ⊢
        go_wp2_with (first | ((with_reducible refine gate_callee (f := 56) rfl ?_); refine goesL_ (some 18) rfl rfl Try.func56 (by kernel_rfl) rfl #[.agg #[], u3, .int .u64 (ws.getD j 0)] rfl (by (try simp only [List.map_toArray, List.map_cons, List.map_nil]); first | done | rfl) ?_; (with_reducible refine (binary_bigEndian_AppendUint64.calls (fun k_ => k_ ≠ gb ∧ k_ ≠ gw) u3 (slot_sum.f ws j) (ws.getD j 0) (slot_sum.f ws (j + 1)) w _ HB2.out HO2.out HS.out).mono ?_); rintro e w19 ⟨v204, rfl, ho0, hb, hkp⟩; refine ⟨_, rfl, ?_⟩; have BK4 := Aside0.mk (blk_kept BK2.out hkp (fun hs_ => hs_.1 rfl)); have HW4 := Aside0.mk (blk_kept HW2.out hkp (fun hs_ => hs_.2 rfl)); have HO4 := Aside0.mk (Kd.R_mono (ok' := fun k_ => k_ ≠ gb ∧ k_ ≠ gw) ho0 (fun k_ hk_ => hk_.elim id (fun h => ⟨fun e => by have := blk_lt BK2.out; omega, fun e => by have := blk_lt HW2.out; omega⟩))); have HB4 := Aside0.mk hb; clear ho0 hb hkp BK2 HW2 HO2 HB2))
        go_roundg k1
        case measure => omega
        case rel => exact ⟨j + 1, by go_num, ⟨by omega⟩, ⟨by have := HKJ.out; omega⟩, HO4, BK4, HW4, HB4⟩
      · have hj6 : j = 6 := by have := HJ.out; omega
        have hj1 : decide ((j : Int) < 6) = false := by simp; omega
        have HJ6 := Aside0.mk hj6
        clear hj hj6
        have hxs : slot_sum.f ws j = slot_sum.f ws 6 := by rw [HJ6.out]
        rw [hxs] at HO
        clear hxs HKJ
        have hcv := own_string (P := Try.prog) Try.underlying55 Try.underlying5 Try.underlying9 (Kd.own_of_R HO.out)
        have hfd : ∀ (x0 x1 x2 x3 : Value) (w_ : World), (Instr.field 28 (.agg #[x0, x1, x2, x3]) 0).run Try.prog w_ = .ok x0 w_ := fun x0 x1 x2 x3 w_ => by kernel_rfl
        go_wp2_with (first | ((with_reducible refine gate_callee (f := 57) rfl ?_); refine goesL_ (some 22) rfl rfl Try.func57 (by kernel_rfl) rfl #[.string (strOfNums (slot_sum.f ws 6))] rfl (by (try simp only [List.map_toArray, List.map_cons, List.map_nil]); first | done | rfl) ?_; (with_reducible refine (impl_HashOf.calls k _ d1 d2 d3 d4 _ A2.out).mono ?_); rintro e w19 ⟨rfl, hb⟩; refine ⟨_, rfl, ?_⟩; have HB4 := Aside0.mk (below_step (by repeat (first | (with_reducible first | exact HBr.out | apply below_alloc | apply pw_below_drewN | apply below_drew1) | exact HBr.out)) hb); clear hb))
        go_ret
        exact ⟨by first | rfl | (simp; done), by repeat (first | (with_reducible first | exact HB4.out | apply below_alloc | apply pw_below_drewN | apply below_drew1) | exact HB4.out)⟩

end Go.Proofs.Ytcgfgodpiobcfaa.M
