-- Printed by myprint.py, this session's own wrapper over the kit's print, out of the translation. Lean checks it.
import Derived.Test.YtaeipffenlkjpaaDoorPAllx0
import Derived.Test.YtaeipffenlkjpaaDoorPAllx1
import Derived.Test.YtaeipffenlkjpaaDoorPAllx2
namespace Go.Proofs.YtaeipffenlkjpaaDoor.PAll
open Go.RowKit Go.Proofs.YtaeipffenlkjpaaDoorW.PrintWords Go.Proofs.YtaeipffenlkjpaaDoorW.PrintLast Go.Proofs.YtaeipffenlkjpaaDoorW.PrintMore
attribute [local go_sem] max2_int min2_int max_two min_two max_three min_three max_four min_four   -- for this text's walks alone
set_option linter.unusedVariables false
set_option linter.unusedSimpArgs false

end Go.Proofs.YtaeipffenlkjpaaDoor.PAll
