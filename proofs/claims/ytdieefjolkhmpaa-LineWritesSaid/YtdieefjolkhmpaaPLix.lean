/- Each Go function that the law reaches has the same answers as the Lean function of its name: contracts, written by a program of this session. -/
import Derived.Test.YtdieefjolkhmpaaPLix0
import Derived.Test.YtdieefjolkhmpaaPLix1
import Derived.Test.YtdieefjolkhmpaaPLix2
import Derived.Test.YtdieefjolkhmpaaPLix3
import Derived.Test.YtdieefjolkhmpaaPLix4
import Derived.Test.YtdieefjolkhmpaaPLix5
import Derived.Test.YtdieefjolkhmpaaPLix6
import Derived.Test.YtdieefjolkhmpaaPLix7
import Derived.Test.YtdieefjolkhmpaaPLix8
import Derived.Test.YtdieefjolkhmpaaPLix9
import Derived.Test.YtdieefjolkhmpaaPLix10
import Derived.Test.YtdieefjolkhmpaaPLix11
namespace Go.Proofs.Ytdieefjolkhmpaa.PLi
open Go.RowKit Go.Proofs.YtdieefjolkhmpaaW.PrintWords Go.Proofs.YtdieefjolkhmpaaW.PrintLast Go.Proofs.YtdieefjolkhmpaaW.PrintMore
attribute [local go_sem] max2_int min2_int max_two min_two max_three min_three max_four min_four   -- for this text's walks alone
set_option linter.unusedVariables false
set_option linter.unusedSimpArgs false
attribute [local go_sem] IntKind.wrap_u8 IntKind.wrap_u32
noncomputable section

end
end Go.Proofs.Ytdieefjolkhmpaa.PLi
