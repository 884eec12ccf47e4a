/- The walk of nat.GCD. -/
import Derived.Test.YtdcmpnjhomhhiaaGreatNatRGcd
import Derived.Test.YtdcmpnjhomhhiaaGreatNatDivBad
import Derived.Test.YtdcmpnjhomhhiaaGreatBox
set_option linter.unusedVariables false
namespace Go.Proofs.YtdcmpnjhomhhiaaGreat
open Go.RowKit

end Go.Proofs.YtdcmpnjhomhhiaaGreat
