-- Laid by a program of this session over given contracts (wip/tools/givenprint.py).
import Derived.Test.YtogpaeebkdopiaaPAllx0
import Derived.Test.YtogpaeebkdopiaaPAllx1
import Derived.Test.YtogpaeebkdopiaaPAllx2
import Derived.Test.YtogpaeebkdopiaaPAllx3
import Derived.Test.YtogpaeebkdopiaaPAllx4
import Derived.Test.YtogpaeebkdopiaaPAllx5
import Derived.Test.YtogpaeebkdopiaaPAllx6
namespace Go.Proofs.Ytogpaeebkdopiaa.PAll
open Go.RowKit Go.Proofs.YtogpaeebkdopiaaW.PrintWords Go.Proofs.YtogpaeebkdopiaaW.PrintLast Go.Proofs.YtogpaeebkdopiaaW.PrintMore
attribute [local go_sem] max2_int min2_int max_two min_two max_three min_three max_four min_four   -- for this text's walks alone
set_option linter.unusedVariables false
set_option linter.unusedSimpArgs false

end Go.Proofs.Ytogpaeebkdopiaa.PAll
