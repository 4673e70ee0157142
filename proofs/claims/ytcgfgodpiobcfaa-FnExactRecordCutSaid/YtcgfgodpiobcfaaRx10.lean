/- The walk of functions of the given program: what each computes, as a Lean function, and that the code comes to it. Written by a program of this session's. No condition but each theorem's own. -/
import Derived.Test.YtcgfgodpiobcfaaRD
namespace Go.Proofs.Ytcgfgodpiobcfaa.R
open Go.RowKit Go.Proofs.YtcgfgodpiobcfaaW.PrintWords Go.Proofs.YtcgfgodpiobcfaaW.PrintLast Go.Proofs.YtcgfgodpiobcfaaW.PrintMore
attribute [local go_sem] max2_int min2_int max_two min_two max_three min_three max_four min_four   -- for this text's walks alone
set_option linter.unusedVariables false
set_option linter.unusedSimpArgs false

/-! ### words: function 55 -/
def wordPtrs (g o : Nat) : Array Value := #[.pointer (some ⟨g, o, none⟩), .pointer (some ⟨g, o + 1, none⟩), .pointer (some ⟨g, o + 2, none⟩), .pointer (some ⟨g, o + 3, none⟩), .pointer (some ⟨g, o + 3 + 1, none⟩), .pointer (some ⟨g, o + 3 + 2, none⟩), .pointer (some ⟨g, o + 3 + 3, none⟩)]
set_option maxHeartbeats 8000000 in
set_option maxRecDepth 100000 in
theorem words_calls (g o : Nat) (w : World) :
    Calls Try.prog 55 #[.pointer (some ⟨g, o, none⟩)] w fun e w' => ∃ gw, e = .returned (.slice (some ⟨gw, 0, none⟩) 7 7) ∧ w'.heap[gw]? = some (.cells (wordPtrs g o) 87 (0, 0)) ∧ w.heap.size ≤ gw ∧ Below w.heap.size w w' := by
  go_enter Try.func55, Try.ntmps55
  go_wp2
  go_still_tail 25, (by kernel_rfl)
  change wpList _ _ _ _ _ w.drew
  obtain ⟨w2, hw2⟩ : ∃ w2, w2 = w.drew := ⟨_, rfl⟩
  rw [← hw2]
  have hs : w2.heap.size = w.heap.size := by rw [hw2]; rfl
  have hb : Below w.heap.size w w2 := by rw [hw2]; exact below_drew1 (Below.refl _ _)
  have HS := Aside0.mk hs
  have HB := Aside0.mk hb
  clear hw2 hs hb
  go_wp2
  go_ret
  refine ⟨w2.heap.size, rfl, ?_, by rw [HS.out]; exact Nat.le_refl _, below_alloc HB.out _⟩
  exact blk_new w2 _

end Go.Proofs.Ytcgfgodpiobcfaa.R
