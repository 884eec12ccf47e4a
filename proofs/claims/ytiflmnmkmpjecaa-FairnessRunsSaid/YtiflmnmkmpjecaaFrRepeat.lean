/- The walk of strings.Repeat at the text "0", up to 19 copies. -/
import Derived.Test.YtiflmnmkmpjecaaFrArith
import Derived.Lib.Strings
import Derived.Lib.Slices
import Derived.Lib.Walk
set_option linter.unusedVariables false
namespace Go.Proofs.Ytiflmnmkmpjecaa
open Go.RowKit
namespace Fr
/-- c times the byte '0'. -/
def zeros (c : Nat) : ByteArray := ⟨(List.replicate c (48 : UInt8)).toArray⟩
end Fr
end Go.Proofs.Ytiflmnmkmpjecaa
