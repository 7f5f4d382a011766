/- Texts of this proof, joined, without what it does not use. No condition. -/
import Derived.IntWalk
import Derived.Test.YtdkhkhidekpfoaaQn

set_option linter.unusedVariables false
set_option linter.unusedSimpArgs false
set_option maxHeartbeats 400000
namespace Go.Proofs.Ytdkhkhidekpfoaa
open Go Go.TL
end Go.Proofs.Ytdkhkhidekpfoaa
