/- Functions: bags. No condition but each theorem's own. -/
import Derived.Test.YtcgkhljolflenaaGreatFB
namespace Go.Proofs.YtcgkhljolflenaaGreatW.V
open Go Go.Proofs
set_option linter.unusedSimpArgs false
set_option linter.unusedVariables false
set_option maxRecDepth 8000
set_option maxHeartbeats 4000000


end Go.Proofs.YtcgkhljolflenaaGreatW.V

