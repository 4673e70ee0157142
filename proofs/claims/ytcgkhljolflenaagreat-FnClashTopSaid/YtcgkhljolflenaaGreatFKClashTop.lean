/- The closed facts of the row FnClashTop, continued. No condition. -/
import Derived.Test.YtcgkhljolflenaaGreatRows
import Derived.ProofKit
import Derived.SizedLaws
namespace Go.Proofs.YtcgkhljolflenaaGreat.fnClashTop
open Go.ChangeShapes Go.WideShapes Go.ChangeAt Go.RowKit
theorem named : Tryz.pinned.checked.prog.funcNamed Rows.fnClashTopRow.func = some 3 := by kernel_rfl
theorem inst : Tryz.f3.isInstance Tryz.pinned.checked.prog Rows.fnClashTopRow.origin Rows.fnClashTopRow.targs := (of_decide_eq_true (by kernel_rfl))
theorem wrapper : Tryz.f3.isWrapper Tryz.pinned.checked.prog Rows.fnClashTopRow.wrapper Rows.fnClashTopRow.mainSum := by unfold Func.isWrapper; first | (rw [if_pos (by decide +kernel)]; kernel_rfl) | (rw [if_neg (by decide +kernel)]; exact ⟨rfl, rfl⟩)
end Go.Proofs.YtcgkhljolflenaaGreat.fnClashTop
