-- Laid by a program of this session over given contracts (wip/tools/givenprint.py).
import Derived.Test.YtkmfdkilimkbpaaPAllx0
import Derived.Test.YtkmfdkilimkbpaaPAllx1
import Derived.Test.YtkmfdkilimkbpaaPAllx2
import Derived.Test.YtkmfdkilimkbpaaPAllx3
import Derived.Test.YtkmfdkilimkbpaaPAllx4
import Derived.Test.YtkmfdkilimkbpaaPAllx5
namespace Go.Proofs.Ytkmfdkilimkbpaa.PAll
open Go.RowKit Go.Proofs.YtkmfdkilimkbpaaW.PrintWords Go.Proofs.YtkmfdkilimkbpaaW.PrintLast Go.Proofs.YtkmfdkilimkbpaaW.PrintMore
attribute [local go_sem] max2_int min2_int max_two min_two max_three min_three max_four min_four   -- for this text's walks alone
set_option linter.unusedVariables false
set_option linter.unusedSimpArgs false

end Go.Proofs.Ytkmfdkilimkbpaa.PAll
