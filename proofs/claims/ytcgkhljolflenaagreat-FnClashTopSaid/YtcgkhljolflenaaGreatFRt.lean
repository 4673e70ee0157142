/- What a law looks up in its code. No condition but each theorem's own. -/
import Derived.Test.YtcgkhljolflenaaGreatFR
namespace Go.Proofs.YtcgkhljolflenaaGreatW.V
open Go Go.Proofs
set_option linter.unusedSimpArgs false
set_option linter.unusedVariables false
set_option maxRecDepth 8000
set_option maxHeartbeats 4000000


theorem wrapU8_any (t : Int) : ∃ y : UInt8, IntKind.u8.wrap t = (y.toNat : Int) := by
  refine ⟨UInt8.ofNat (IntKind.u8.wrap t).toNat, ?_⟩
  simp [IntKind.wrap, IntKind.bits, IntKind.signed]; omega
abbrev eByte : CE UInt8 := CE.one cU8 cU8_n
attribute [go_sem] eByte

end Go.Proofs.YtcgkhljolflenaaGreatW.V

