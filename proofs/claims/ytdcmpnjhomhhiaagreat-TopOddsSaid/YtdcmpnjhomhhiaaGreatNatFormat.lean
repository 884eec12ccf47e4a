/- The walk of nat.Format. -/
import Derived.Test.YtdcmpnjhomhhiaaGreatG9
import Derived.Test.YtdcmpnjhomhhiaaGreatNatCopy
import Derived.Test.YtdcmpnjhomhhiaaGreatG2
import Derived.Test.YtdcmpnjhomhhiaaGreatNatDivMod
import Derived.Test.YtdcmpnjhomhhiaaGreatBox
import Derived.Deep.LoopGhost
import Derived.Lib.SlBytesRow
set_option linter.unusedVariables false
namespace Go.Proofs.YtdcmpnjhomhhiaaGreat
open Go.RowKit

theorem Tryz.infoB : (Tryz.prog.info? 5).map (fun i => (i.zero, i.size, i.bytes)) = some (some (.int .u8 0), 1, 1) := by kernel_rfl
theorem dsmall_at {g n c M N d : Nat} {dI : Int} {F : Nat → Value} {w : World} (hd : dI = (d : Int)) (hn : 0 < n) (hn2 : n ≤ 1000) (hM : n ≤ M) (hd0 : 0 < d) (hd1 : d < 4294967296) (hN : Fit32 N n) (hA : Arr w g 65 M F) (hF : ∀ j, j < n → F j = .int .u32 (d32 N j : Int)) :
    Calls Tryz.prog 77 #[.slice (some ⟨g, 0, none⟩) n c, .int .u32 dI] w fun e w' => e = .returned (.int .u32 ((N % d : Nat) : Int)) ∧ Arr w' g 65 M (dcell N d n F 0) ∧ w.grownBy w' (some g) := by
  subst hd; exact dsmall_any hn hn2 hM hd0 hd1 hN hA hF

theorem run_field_nat (D : Option Addr) (n c : Nat) (w : World) : (Instr.field 34 (.agg #[.slice D n c]) 0).run Tryz.prog w = .ok (.slice D n c) w := by
  kernel_rfl
end Go.Proofs.YtdcmpnjhomhhiaaGreat
