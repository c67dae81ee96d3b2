-- written by wip/gen.py (this session's own driver of the kit's printer); Lean checks it
import Derived.Test.YtiddhaakbcnbiaaDoorR0x0
import Derived.Test.YtiddhaakbcnbiaaDoorR0x1
import Derived.Test.YtiddhaakbcnbiaaDoorR0x2
import Derived.Test.YtiddhaakbcnbiaaDoorR0x3
namespace Go.Proofs.YtiddhaakbcnbiaaDoor.R0
open Go.RowKit Go.Proofs.YtiddhaakbcnbiaaDoorW.PrintWords Go.Proofs.YtiddhaakbcnbiaaDoorW.PrintLast Go.Proofs.YtiddhaakbcnbiaaDoorW.PrintMore
attribute [local go_sem] max2_int min2_int max_two min_two max_three min_three max_four min_four   -- for this text's walks alone
set_option linter.unusedVariables false
set_option linter.unusedSimpArgs false

end Go.Proofs.YtiddhaakbcnbiaaDoor.R0
