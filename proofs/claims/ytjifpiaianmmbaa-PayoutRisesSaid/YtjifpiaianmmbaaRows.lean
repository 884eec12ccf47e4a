/-
  No cell of these rows narrows 'for every input' (looked for: loops, veiled, ifaces, maps, wideKeys, modest, calm, conditions, laid).
  DERIVED. THE GIVEN ROWS OF THIS SEAT. 6 by the template 'for every input the law returns true; each argument reads behind the call as it read before'; 0 by the template 'total and deterministic' (their statements: YtjifpiaianmmbaaTotals.lean).
  GIVEN WITH THE SEED: the statements are not yours to turn. If you find one false, say at which input.
  Laid BY PROGRAM, IN A SANDBOX (cutbox-rows.mjs): the forced cells as the released guide's own fill.sh prints them over the translation 97ef5e1dd6cfae24… (all of the seat's roots in one cut). By AI agents, Wed Nov 11 2026. No macro, syntax, notation, axiom, sorry.
-/
import Derived.Test.YtjifpiaianmmbaaChecked
import GoSem.Claim
import GoSem.ClaimJoined
import GoSem.ClaimMapViews
import Derived.JoinedTies
import Derived.KernelRfl
namespace Go.Proofs.Ytjifpiaianmmbaa
/- THE CELL 'sum', in the pinned program and in every row, IS THE sha256 OF THE DUMP (.gsa) THAT YtjifpiaianmmbaaProg.lean LOADS. Nothing in Lean hashes anything: it is a label: what it is worth is what the hold of that sum in a sandbox is worth. -/
noncomputable def Try.pinned : Pinned := { name := "ytjifpiaianmmbaa", sum := "97ef5e1dd6cfae249bcf1cdf6971b6e8e60f3d812853f0cd8b3e5308fdb98690", checked := Try.checked }
namespace Rows
def none {H : Type} : Left H := { results := [], args := [] }

/-- 'lotterylaw47.PayoutPays': WHATEVER THE INPUT: true; the input reads as it did. -/
def payoutPaysSpec : ChangeSpec := { name := "payoutPays", fn := fun _ => fun
  | [d1, d2, d3] => { results := [.lit (.bool true)], args := [d1, d2, d3] }
  | _ => none }
def payoutPaysRow : OpenClaim := { program := "ytjifpiaianmmbaa", sum := "97ef5e1dd6cfae249bcf1cdf6971b6e8e60f3d812853f0cd8b3e5308fdb98690", func := "lottery/lotterylaw47.PayoutPays", spec := "payoutPays", unfollowed := true, recurses := true, apart := false }
def PayoutPaysSaid : Prop := payoutPaysRow.holds Try.pinned (OpenSpec.ofChange payoutPaysSpec)

/-- ITS FALSE NEIGHBOUR: 'it returns false'. Refute it at one input. -/
def payoutPaysWrong : ChangeSpec := { name := "payoutPays", fn := fun _ => fun
  | [d1, d2, d3] => { results := [.lit (.bool false)], args := [d1, d2, d3] }
  | _ => none }
def PayoutPaysWrongFalsely : Prop := payoutPaysRow.holds Try.pinned (OpenSpec.ofChange payoutPaysWrong)

/-- 'lotterylaw47.PayoutRises': WHATEVER THE INPUT: true; the input reads as it did. -/
def payoutRisesSpec : ChangeSpec := { name := "payoutRises", fn := fun _ => fun
  | [d1, d2, d3] => { results := [.lit (.bool true)], args := [d1, d2, d3] }
  | _ => none }
def payoutRisesRow : OpenClaim := { program := "ytjifpiaianmmbaa", sum := "97ef5e1dd6cfae249bcf1cdf6971b6e8e60f3d812853f0cd8b3e5308fdb98690", func := "lottery/lotterylaw47.PayoutRises", spec := "payoutRises", unfollowed := true, recurses := true, apart := false }
def PayoutRisesSaid : Prop := payoutRisesRow.holds Try.pinned (OpenSpec.ofChange payoutRisesSpec)

/-- ITS FALSE NEIGHBOUR: 'it returns false'. Refute it at one input. -/
def payoutRisesWrong : ChangeSpec := { name := "payoutRises", fn := fun _ => fun
  | [d1, d2, d3] => { results := [.lit (.bool false)], args := [d1, d2, d3] }
  | _ => none }
def PayoutRisesWrongFalsely : Prop := payoutRisesRow.holds Try.pinned (OpenSpec.ofChange payoutRisesWrong)

/-- 'lotterylaw47.PayoutFree': WHATEVER THE INPUT: true; the input reads as it did. -/
def payoutFreeSpec : ChangeSpec := { name := "payoutFree", fn := fun _ => fun
  | [d] => { results := [.lit (.bool true)], args := [d] }
  | _ => none }
def payoutFreeRow : OpenClaim := { program := "ytjifpiaianmmbaa", sum := "97ef5e1dd6cfae249bcf1cdf6971b6e8e60f3d812853f0cd8b3e5308fdb98690", func := "lottery/lotterylaw47.PayoutFree", spec := "payoutFree", unfollowed := true, recurses := true, apart := false }
def PayoutFreeSaid : Prop := payoutFreeRow.holds Try.pinned (OpenSpec.ofChange payoutFreeSpec)

/-- ITS FALSE NEIGHBOUR: 'it returns false'. Refute it at one input. -/
def payoutFreeWrong : ChangeSpec := { name := "payoutFree", fn := fun _ => fun
  | [d] => { results := [.lit (.bool false)], args := [d] }
  | _ => none }
def PayoutFreeWrongFalsely : Prop := payoutFreeRow.holds Try.pinned (OpenSpec.ofChange payoutFreeWrong)

/-- 'lotterylaw47.PayoutExact': WHATEVER THE INPUT: true; the input reads as it did. -/
def payoutExactSpec : ChangeSpec := { name := "payoutExact", fn := fun _ => fun
  | [d1, d2, d3] => { results := [.lit (.bool true)], args := [d1, d2, d3] }
  | _ => none }
def payoutExactRow : OpenClaim := { program := "ytjifpiaianmmbaa", sum := "97ef5e1dd6cfae249bcf1cdf6971b6e8e60f3d812853f0cd8b3e5308fdb98690", func := "lottery/lotterylaw47.PayoutExact", spec := "payoutExact", unfollowed := true, recurses := true, apart := false }
def PayoutExactSaid : Prop := payoutExactRow.holds Try.pinned (OpenSpec.ofChange payoutExactSpec)

/-- ITS FALSE NEIGHBOUR: 'it returns false'. Refute it at one input. -/
def payoutExactWrong : ChangeSpec := { name := "payoutExact", fn := fun _ => fun
  | [d1, d2, d3] => { results := [.lit (.bool false)], args := [d1, d2, d3] }
  | _ => none }
def PayoutExactWrongFalsely : Prop := payoutExactRow.holds Try.pinned (OpenSpec.ofChange payoutExactWrong)

/-- 'lotterylaw47.PayoutLooks': WHATEVER THE INPUT: true; the input reads as it did. -/
def payoutLooksSpec : ChangeSpec := { name := "payoutLooks", fn := fun _ => fun
  | [d] => { results := [.lit (.bool true)], args := [d] }
  | _ => none }
def payoutLooksRow : OpenClaim := { program := "ytjifpiaianmmbaa", sum := "97ef5e1dd6cfae249bcf1cdf6971b6e8e60f3d812853f0cd8b3e5308fdb98690", func := "lottery/lotterylaw47.PayoutLooks", spec := "payoutLooks", unfollowed := true, recurses := true, apart := false }
def PayoutLooksSaid : Prop := payoutLooksRow.holds Try.pinned (OpenSpec.ofChange payoutLooksSpec)

/-- ITS FALSE NEIGHBOUR: 'it returns false'. Refute it at one input. -/
def payoutLooksWrong : ChangeSpec := { name := "payoutLooks", fn := fun _ => fun
  | [d] => { results := [.lit (.bool false)], args := [d] }
  | _ => none }
def PayoutLooksWrongFalsely : Prop := payoutLooksRow.holds Try.pinned (OpenSpec.ofChange payoutLooksWrong)

/-- 'lotterylaw47.PayoutSpoils': WHATEVER THE INPUT: true; the input reads as it did. -/
def payoutSpoilsSpec : ChangeSpec := { name := "payoutSpoils", fn := fun _ => fun
  | [d1, d2, d3] => { results := [.lit (.bool true)], args := [d1, d2, d3] }
  | _ => none }
def payoutSpoilsRow : OpenClaim := { program := "ytjifpiaianmmbaa", sum := "97ef5e1dd6cfae249bcf1cdf6971b6e8e60f3d812853f0cd8b3e5308fdb98690", func := "lottery/lotterylaw47.PayoutSpoils", spec := "payoutSpoils", unfollowed := true, recurses := true, apart := false }
def PayoutSpoilsSaid : Prop := payoutSpoilsRow.holds Try.pinned (OpenSpec.ofChange payoutSpoilsSpec)

/-- ITS FALSE NEIGHBOUR: 'it returns false'. Refute it at one input. -/
def payoutSpoilsWrong : ChangeSpec := { name := "payoutSpoils", fn := fun _ => fun
  | [d1, d2, d3] => { results := [.lit (.bool false)], args := [d1, d2, d3] }
  | _ => none }
def PayoutSpoilsWrongFalsely : Prop := payoutSpoilsRow.holds Try.pinned (OpenSpec.ofChange payoutSpoilsWrong)

/- THE SECOND FORM. 'bulk': how many values and letters a reading holds, each counted each time it is reached (what is shared counts as often as it is met; a slice's spare places count too). A statement '..UptoSaid' is the law's where the arguments, and the package variables that the reading takes, are together of bulk at most 1048576: NARROWER than '..Said'. Prove '..Said' where nothing that the law and all that it calls make is longer than what came in: it says more and counts as full. Else prove '..UptoSaid'. A law counts once. -/
mutual
def uptoBulk {H : Type} : DataW H → Nat
  | .lit (.string bytes) => bytes.length + 1
  | .lit _ => 1
  | .nil => 1
  | .ptr d => uptoBulk d + 1
  | .slice elems spare => uptoBulkAll elems + uptoBulkAll spare + 1
  | .agg parts => uptoBulkAll parts + 1
  | .iface _ d => uptoBulk d + 1
  | .map entries => uptoBulkEntries entries + 1
  | .held _ => 1
def uptoBulkAll {H : Type} : List (DataW H) → Nat
  | [] => 0
  | d :: r => uptoBulk d + uptoBulkAll r
def uptoBulkEntries {H : Type} : List (Lit × DataW H) → Nat
  | [] => 0
  | x :: r => uptoBulkEntry x + uptoBulkEntries r
def uptoBulkEntry {H : Type} : Lit × DataW H → Nat
  | (.string bytes, d) => bytes.length + uptoBulk d + 1
  | (_, d) => uptoBulk d + 1
 end
def uptoSmall : (H : Type) → List (DataW H) → Bool := fun _ ds => decide (uptoBulkAll ds ≤ 1048576)
def OpenSpec.upto (s : _root_.Go.ChangeSpec) : _root_.Go.OpenSpec := { _root_.Go.OpenSpec.ofChange s with cond := some uptoSmall }

/-- 'lotterylaw47.PayoutPays', WHERE WHAT IT READS IS OF BULK AT MOST 1048576: true; the input reads as it did. -/
def payoutPaysUptoRow : OpenClaim := { program := "ytjifpiaianmmbaa", sum := "97ef5e1dd6cfae249bcf1cdf6971b6e8e60f3d812853f0cd8b3e5308fdb98690", func := "lottery/lotterylaw47.PayoutPays", spec := "payoutPays", unfollowed := true, recurses := true, apart := false, narrowed := true }
def PayoutPaysUptoSaid : Prop := payoutPaysUptoRow.holds Try.pinned (OpenSpec.upto payoutPaysSpec)

/-- 'lotterylaw47.PayoutRises', WHERE WHAT IT READS IS OF BULK AT MOST 1048576: true; the input reads as it did. -/
def payoutRisesUptoRow : OpenClaim := { program := "ytjifpiaianmmbaa", sum := "97ef5e1dd6cfae249bcf1cdf6971b6e8e60f3d812853f0cd8b3e5308fdb98690", func := "lottery/lotterylaw47.PayoutRises", spec := "payoutRises", unfollowed := true, recurses := true, apart := false, narrowed := true }
def PayoutRisesUptoSaid : Prop := payoutRisesUptoRow.holds Try.pinned (OpenSpec.upto payoutRisesSpec)

/-- 'lotterylaw47.PayoutFree', WHERE WHAT IT READS IS OF BULK AT MOST 1048576: true; the input reads as it did. -/
def payoutFreeUptoRow : OpenClaim := { program := "ytjifpiaianmmbaa", sum := "97ef5e1dd6cfae249bcf1cdf6971b6e8e60f3d812853f0cd8b3e5308fdb98690", func := "lottery/lotterylaw47.PayoutFree", spec := "payoutFree", unfollowed := true, recurses := true, apart := false, narrowed := true }
def PayoutFreeUptoSaid : Prop := payoutFreeUptoRow.holds Try.pinned (OpenSpec.upto payoutFreeSpec)

/-- 'lotterylaw47.PayoutExact', WHERE WHAT IT READS IS OF BULK AT MOST 1048576: true; the input reads as it did. -/
def payoutExactUptoRow : OpenClaim := { program := "ytjifpiaianmmbaa", sum := "97ef5e1dd6cfae249bcf1cdf6971b6e8e60f3d812853f0cd8b3e5308fdb98690", func := "lottery/lotterylaw47.PayoutExact", spec := "payoutExact", unfollowed := true, recurses := true, apart := false, narrowed := true }
def PayoutExactUptoSaid : Prop := payoutExactUptoRow.holds Try.pinned (OpenSpec.upto payoutExactSpec)

/-- 'lotterylaw47.PayoutLooks', WHERE WHAT IT READS IS OF BULK AT MOST 1048576: true; the input reads as it did. -/
def payoutLooksUptoRow : OpenClaim := { program := "ytjifpiaianmmbaa", sum := "97ef5e1dd6cfae249bcf1cdf6971b6e8e60f3d812853f0cd8b3e5308fdb98690", func := "lottery/lotterylaw47.PayoutLooks", spec := "payoutLooks", unfollowed := true, recurses := true, apart := false, narrowed := true }
def PayoutLooksUptoSaid : Prop := payoutLooksUptoRow.holds Try.pinned (OpenSpec.upto payoutLooksSpec)

/-- 'lotterylaw47.PayoutSpoils', WHERE WHAT IT READS IS OF BULK AT MOST 1048576: true; the input reads as it did. -/
def payoutSpoilsUptoRow : OpenClaim := { program := "ytjifpiaianmmbaa", sum := "97ef5e1dd6cfae249bcf1cdf6971b6e8e60f3d812853f0cd8b3e5308fdb98690", func := "lottery/lotterylaw47.PayoutSpoils", spec := "payoutSpoils", unfollowed := true, recurses := true, apart := false, narrowed := true }
def PayoutSpoilsUptoSaid : Prop := payoutSpoilsUptoRow.holds Try.pinned (OpenSpec.upto payoutSpoilsSpec)

end Rows
end Go.Proofs.Ytjifpiaianmmbaa
