/- Texts of this proof, joined, without what it does not use. No condition. -/
import Derived.Shelf.SlSortCmp.InsertionK
import Derived.Test.YtdkhkhidekpfoaaQj

namespace Go.TL
open Go.Sort Go.Proofs
variable {C:Ctx} {st:St} {g:Gh} {a:Act} {w:World} {P:Program}
end Go.TL
