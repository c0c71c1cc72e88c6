/- The algorithms that a policy ranks are told by the program, the highest rank first. -/
import Derived.Test.YtdieefjolkhmpaaStmtPolicyRanks
namespace Go.Proofs.Ytdieefjolkhmpaa.Pure
open Go.RowKit Go.Proofs.Ytdieefjolkhmpaa.PPo Go.Proofs.YtdieefjolkhmpaaW.PrintWords Go.Proofs.YtdieefjolkhmpaaW.PrintLast Go.Proofs.YtdieefjolkhmpaaW.PrintMore
set_option linter.unusedVariables false

theorem PolicyRanks : PPoPolicyRanks.Pure := fun p _ => ⟨40, (by decide +kernel : pestlelaw46_awake.f 40 = some true)⟩
end Go.Proofs.Ytdieefjolkhmpaa.Pure
