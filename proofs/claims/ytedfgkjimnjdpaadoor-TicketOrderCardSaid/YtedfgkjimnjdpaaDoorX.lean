-- printed by pp.py, a program of this session
import Derived.Test.YtedfgkjimnjdpaaDoorX0
import Derived.Test.YtedfgkjimnjdpaaDoorX1
import Derived.Test.YtedfgkjimnjdpaaDoorX2
import Derived.Test.YtedfgkjimnjdpaaDoorX3
import Derived.Test.YtedfgkjimnjdpaaDoorX4
import Derived.Test.YtedfgkjimnjdpaaDoorX5
import Derived.Test.YtedfgkjimnjdpaaDoorX6
import Derived.Test.YtedfgkjimnjdpaaDoorX7
namespace Go.Proofs.YtedfgkjimnjdpaaDoor.X
open Go.RowKit Go.Proofs.YtedfgkjimnjdpaaDoorW.PrintWords Go.Proofs.YtedfgkjimnjdpaaDoorW.PrintLast Go.Proofs.YtedfgkjimnjdpaaDoorW.PrintMore
attribute [local go_sem] max2_int min2_int max_two min_two max_three min_three max_four min_four   -- for this text's walks alone
set_option linter.unusedVariables false
set_option linter.unusedSimpArgs false

end Go.Proofs.YtedfgkjimnjdpaaDoor.X
