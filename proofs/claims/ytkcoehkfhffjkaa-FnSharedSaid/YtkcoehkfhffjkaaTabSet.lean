/- SetPage: the program's function and the reference's. Printed by wip/tools/mk_tabset.py. -/
import Derived.Test.YtkcoehkfhffjkaaTabFn
namespace Go.Proofs.Ytkcoehkfhffjkaa
open Go.ChangeShapes Go.WideShapes Go.ChangeAt Go.RowKit
set_option linter.unusedSimpArgs false
set_option linter.unusedVariables false

end Go.Proofs.Ytkcoehkfhffjkaa
