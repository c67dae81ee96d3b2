-- written by wip/gen.py (this session's own driver of the kit's printer); Lean checks it
import Derived.Test.YtmjdjpelhhibgaaGreatDoorR0x0
import Derived.Test.YtmjdjpelhhibgaaGreatDoorR0x1
namespace Go.Proofs.YtmjdjpelhhibgaaGreatDoor.R0
open Go.RowKit Go.Proofs.YtmjdjpelhhibgaaGreatDoorW.PrintWords Go.Proofs.YtmjdjpelhhibgaaGreatDoorW.PrintLast Go.Proofs.YtmjdjpelhhibgaaGreatDoorW.PrintMore
attribute [local go_sem] max2_int min2_int max_two min_two max_three min_three max_four min_four   -- for this text's walks alone
set_option linter.unusedVariables false
set_option linter.unusedSimpArgs false

end Go.Proofs.YtmjdjpelhhibgaaGreatDoor.R0
