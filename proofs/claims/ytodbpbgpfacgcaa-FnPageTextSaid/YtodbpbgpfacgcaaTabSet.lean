/- SetPage: the program's function and the reference's. Printed by wip/tools/mk_tabset.py. -/
import Derived.Test.YtodbpbgpfacgcaaTabFn
namespace Go.Proofs.Ytodbpbgpfacgcaa
open Go.ChangeShapes Go.WideShapes Go.ChangeAt Go.RowKit
set_option linter.unusedSimpArgs false
set_option linter.unusedVariables false

end Go.Proofs.Ytodbpbgpfacgcaa
