/- Two closed facts on the translated program that the last step of each proof uses. No statement of the seat is proved here. -/
import Derived.Test.YtblaojjpclipaaaM0
import Derived.ProofKit
import Derived.OpenShut
import Derived.ShutString
import Derived.ChangeOld
namespace Go.Proofs.Ytblaojjpclipaaa
theorem own : ownKnob Try.prog.godebug = none := by kernel_rfl
theorem laidOut : laidOutB Try.prog = true := by kernel_rfl
end Go.Proofs.Ytblaojjpclipaaa
