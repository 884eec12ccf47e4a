/-
  No cell of these rows narrows 'for every input' (looked for: loops, veiled, ifaces, maps, wideKeys, modest, calm, conditions, laid).
  DERIVED. THE GIVEN ROWS OF THIS SEAT. 9 by the template 'for every input the law returns true; each argument reads behind the call as it read before'; 0 by the template 'total and deterministic' (their statements: YteclghokkdkolaaTotals.lean).
  GIVEN WITH THE SEED: the statements are not yours to turn. If you find one false, say at which input.
  Laid BY PROGRAM, IN A SANDBOX (cutbox-rows.mjs): the forced cells as the released guide's own fill.sh prints them over the translation 3fda2d670de708d0… (all of the seat's roots in one cut). By AI agents, Wed Nov 11 2026. No macro, syntax, notation, axiom, sorry.
-/
import Derived.Test.YteclghokkdkolaaChecked
import GoSem.Claim
import GoSem.ClaimJoined
import GoSem.ClaimMapViews
import Derived.JoinedTies
import Derived.KernelRfl
namespace Go.Proofs.Yteclghokkdkolaa
/- THE CELL 'sum', in the pinned program and in every row, IS THE sha256 OF THE DUMP (.gsa) THAT YteclghokkdkolaaProg.lean LOADS. Nothing in Lean hashes anything: it is a label: what it is worth is what the hold of that sum in a sandbox is worth. -/
noncomputable def Try.pinned : Pinned := { name := "yteclghokkdkolaa", sum := "3fda2d670de708d0ce2ee8d07ef987a267cc67343b93b18afa59e7db0ca9742d", checked := Try.checked }
namespace Rows
def none {H : Type} : Left H := { results := [], args := [] }

/-- 'lotterylaw04.FracMakes': WHATEVER THE INPUT: true; the input reads as it did. -/
def fracMakesSpec : ChangeSpec := { name := "fracMakes", fn := fun _ => fun
  | [d1, d2] => { results := [.lit (.bool true)], args := [d1, d2] }
  | _ => none }
def fracMakesRow : OpenClaim := { program := "yteclghokkdkolaa", sum := "3fda2d670de708d0ce2ee8d07ef987a267cc67343b93b18afa59e7db0ca9742d", func := "lottery/lotterylaw04.FracMakes", spec := "fracMakes", inPlace := ["internal/abi.NoEscape", "internal/bytealg.MakeNoZero"], unfollowed := true, recurses := true, apart := false }
def FracMakesSaid : Prop := fracMakesRow.holds Try.pinned (OpenSpec.ofChange fracMakesSpec)

/-- ITS FALSE NEIGHBOUR: 'it returns false'. Refute it at one input. -/
def fracMakesWrong : ChangeSpec := { name := "fracMakes", fn := fun _ => fun
  | [d1, d2] => { results := [.lit (.bool false)], args := [d1, d2] }
  | _ => none }
def FracMakesWrongFalsely : Prop := fracMakesRow.holds Try.pinned (OpenSpec.ofChange fracMakesWrong)

/-- 'lotterylaw04.FracOf': WHATEVER THE INPUT: true; the input reads as it did. -/
def fracOfSpec : ChangeSpec := { name := "fracOf", fn := fun _ => fun
  | [d1, d2] => { results := [.lit (.bool true)], args := [d1, d2] }
  | _ => none }
def fracOfRow : OpenClaim := { program := "yteclghokkdkolaa", sum := "3fda2d670de708d0ce2ee8d07ef987a267cc67343b93b18afa59e7db0ca9742d", func := "lottery/lotterylaw04.FracOf", spec := "fracOf", inPlace := ["internal/abi.NoEscape", "internal/bytealg.MakeNoZero"], unfollowed := true, recurses := true, apart := false }
def FracOfSaid : Prop := fracOfRow.holds Try.pinned (OpenSpec.ofChange fracOfSpec)

/-- ITS FALSE NEIGHBOUR: 'it returns false'. Refute it at one input. -/
def fracOfWrong : ChangeSpec := { name := "fracOf", fn := fun _ => fun
  | [d1, d2] => { results := [.lit (.bool false)], args := [d1, d2] }
  | _ => none }
def FracOfWrongFalsely : Prop := fracOfRow.holds Try.pinned (OpenSpec.ofChange fracOfWrong)

/-- 'lotterylaw04.FracCompares': WHATEVER THE INPUT: true; the input reads as it did. -/
def fracComparesSpec : ChangeSpec := { name := "fracCompares", fn := fun _ => fun
  | [d1, d2] => { results := [.lit (.bool true)], args := [d1, d2] }
  | _ => none }
def fracComparesRow : OpenClaim := { program := "yteclghokkdkolaa", sum := "3fda2d670de708d0ce2ee8d07ef987a267cc67343b93b18afa59e7db0ca9742d", func := "lottery/lotterylaw04.FracCompares", spec := "fracCompares", inPlace := ["internal/abi.NoEscape", "internal/bytealg.MakeNoZero"], unfollowed := true, recurses := true, apart := false }
def FracComparesSaid : Prop := fracComparesRow.holds Try.pinned (OpenSpec.ofChange fracComparesSpec)

/-- ITS FALSE NEIGHBOUR: 'it returns false'. Refute it at one input. -/
def fracComparesWrong : ChangeSpec := { name := "fracCompares", fn := fun _ => fun
  | [d1, d2] => { results := [.lit (.bool false)], args := [d1, d2] }
  | _ => none }
def FracComparesWrongFalsely : Prop := fracComparesRow.holds Try.pinned (OpenSpec.ofChange fracComparesWrong)

/-- 'lotterylaw04.FracAdds': WHATEVER THE INPUT: true; the input reads as it did. -/
def fracAddsSpec : ChangeSpec := { name := "fracAdds", fn := fun _ => fun
  | [d1, d2] => { results := [.lit (.bool true)], args := [d1, d2] }
  | _ => none }
def fracAddsRow : OpenClaim := { program := "yteclghokkdkolaa", sum := "3fda2d670de708d0ce2ee8d07ef987a267cc67343b93b18afa59e7db0ca9742d", func := "lottery/lotterylaw04.FracAdds", spec := "fracAdds", inPlace := ["internal/abi.NoEscape", "internal/bytealg.MakeNoZero"], unfollowed := true, recurses := true, apart := false }
def FracAddsSaid : Prop := fracAddsRow.holds Try.pinned (OpenSpec.ofChange fracAddsSpec)

/-- ITS FALSE NEIGHBOUR: 'it returns false'. Refute it at one input. -/
def fracAddsWrong : ChangeSpec := { name := "fracAdds", fn := fun _ => fun
  | [d1, d2] => { results := [.lit (.bool false)], args := [d1, d2] }
  | _ => none }
def FracAddsWrongFalsely : Prop := fracAddsRow.holds Try.pinned (OpenSpec.ofChange fracAddsWrong)

/-- 'lotterylaw04.FracMuls': WHATEVER THE INPUT: true; the input reads as it did. -/
def fracMulsSpec : ChangeSpec := { name := "fracMuls", fn := fun _ => fun
  | [d1, d2] => { results := [.lit (.bool true)], args := [d1, d2] }
  | _ => none }
def fracMulsRow : OpenClaim := { program := "yteclghokkdkolaa", sum := "3fda2d670de708d0ce2ee8d07ef987a267cc67343b93b18afa59e7db0ca9742d", func := "lottery/lotterylaw04.FracMuls", spec := "fracMuls", inPlace := ["internal/abi.NoEscape", "internal/bytealg.MakeNoZero"], unfollowed := true, recurses := true, apart := false }
def FracMulsSaid : Prop := fracMulsRow.holds Try.pinned (OpenSpec.ofChange fracMulsSpec)

/-- ITS FALSE NEIGHBOUR: 'it returns false'. Refute it at one input. -/
def fracMulsWrong : ChangeSpec := { name := "fracMuls", fn := fun _ => fun
  | [d1, d2] => { results := [.lit (.bool false)], args := [d1, d2] }
  | _ => none }
def FracMulsWrongFalsely : Prop := fracMulsRow.holds Try.pinned (OpenSpec.ofChange fracMulsWrong)

/-- 'lotterylaw04.FracDecimals': WHATEVER THE INPUT: true; the input reads as it did. -/
def fracDecimalsSpec : ChangeSpec := { name := "fracDecimals", fn := fun _ => fun
  | [d1, d2] => { results := [.lit (.bool true)], args := [d1, d2] }
  | _ => none }
def fracDecimalsRow : OpenClaim := { program := "yteclghokkdkolaa", sum := "3fda2d670de708d0ce2ee8d07ef987a267cc67343b93b18afa59e7db0ca9742d", func := "lottery/lotterylaw04.FracDecimals", spec := "fracDecimals", inPlace := ["internal/abi.NoEscape", "internal/bytealg.MakeNoZero"], unfollowed := true, recurses := true, apart := false }
def FracDecimalsSaid : Prop := fracDecimalsRow.holds Try.pinned (OpenSpec.ofChange fracDecimalsSpec)

/-- ITS FALSE NEIGHBOUR: 'it returns false'. Refute it at one input. -/
def fracDecimalsWrong : ChangeSpec := { name := "fracDecimals", fn := fun _ => fun
  | [d1, d2] => { results := [.lit (.bool false)], args := [d1, d2] }
  | _ => none }
def FracDecimalsWrongFalsely : Prop := fracDecimalsRow.holds Try.pinned (OpenSpec.ofChange fracDecimalsWrong)

/-- 'lotterylaw04.FracField': WHATEVER THE INPUT: true; the input reads as it did. -/
def fracFieldSpec : ChangeSpec := { name := "fracField", fn := fun _ => fun
  | [d1, d2, d3] => { results := [.lit (.bool true)], args := [d1, d2, d3] }
  | _ => none }
def fracFieldRow : OpenClaim := { program := "yteclghokkdkolaa", sum := "3fda2d670de708d0ce2ee8d07ef987a267cc67343b93b18afa59e7db0ca9742d", func := "lottery/lotterylaw04.FracField", spec := "fracField", inPlace := ["internal/abi.NoEscape", "internal/bytealg.MakeNoZero"], unfollowed := true, recurses := true, apart := false }
def FracFieldSaid : Prop := fracFieldRow.holds Try.pinned (OpenSpec.ofChange fracFieldSpec)

/-- ITS FALSE NEIGHBOUR: 'it returns false'. Refute it at one input. -/
def fracFieldWrong : ChangeSpec := { name := "fracField", fn := fun _ => fun
  | [d1, d2, d3] => { results := [.lit (.bool false)], args := [d1, d2, d3] }
  | _ => none }
def FracFieldWrongFalsely : Prop := fracFieldRow.holds Try.pinned (OpenSpec.ofChange fracFieldWrong)

/-- 'lotterylaw04.FracOrders': WHATEVER THE INPUT: true; the input reads as it did. -/
def fracOrdersSpec : ChangeSpec := { name := "fracOrders", fn := fun _ => fun
  | [d1, d2, d3] => { results := [.lit (.bool true)], args := [d1, d2, d3] }
  | _ => none }
def fracOrdersRow : OpenClaim := { program := "yteclghokkdkolaa", sum := "3fda2d670de708d0ce2ee8d07ef987a267cc67343b93b18afa59e7db0ca9742d", func := "lottery/lotterylaw04.FracOrders", spec := "fracOrders", inPlace := ["internal/abi.NoEscape", "internal/bytealg.MakeNoZero"], unfollowed := true, recurses := true, apart := false }
def FracOrdersSaid : Prop := fracOrdersRow.holds Try.pinned (OpenSpec.ofChange fracOrdersSpec)

/-- ITS FALSE NEIGHBOUR: 'it returns false'. Refute it at one input. -/
def fracOrdersWrong : ChangeSpec := { name := "fracOrders", fn := fun _ => fun
  | [d1, d2, d3] => { results := [.lit (.bool false)], args := [d1, d2, d3] }
  | _ => none }
def FracOrdersWrongFalsely : Prop := fracOrdersRow.holds Try.pinned (OpenSpec.ofChange fracOrdersWrong)

/-- 'lotterylaw04.FracLowest': WHATEVER THE INPUT: true; the input reads as it did. -/
def fracLowestSpec : ChangeSpec := { name := "fracLowest", fn := fun _ => fun
  | [d1, d2, d3] => { results := [.lit (.bool true)], args := [d1, d2, d3] }
  | _ => none }
def fracLowestRow : OpenClaim := { program := "yteclghokkdkolaa", sum := "3fda2d670de708d0ce2ee8d07ef987a267cc67343b93b18afa59e7db0ca9742d", func := "lottery/lotterylaw04.FracLowest", spec := "fracLowest", inPlace := ["internal/abi.NoEscape", "internal/bytealg.MakeNoZero"], unfollowed := true, recurses := true, apart := false }
def FracLowestSaid : Prop := fracLowestRow.holds Try.pinned (OpenSpec.ofChange fracLowestSpec)

/-- ITS FALSE NEIGHBOUR: 'it returns false'. Refute it at one input. -/
def fracLowestWrong : ChangeSpec := { name := "fracLowest", fn := fun _ => fun
  | [d1, d2, d3] => { results := [.lit (.bool false)], args := [d1, d2, d3] }
  | _ => none }
def FracLowestWrongFalsely : Prop := fracLowestRow.holds Try.pinned (OpenSpec.ofChange fracLowestWrong)

/- THE SECOND FORM. 'bulk': how many values and letters a reading holds, each counted each time it is reached (what is shared counts as often as it is met; a slice's spare places count too). A statement '..UptoSaid' is the law's where the arguments, and the package variables that the reading takes, are together of bulk at most 1048576: NARROWER than '..Said'. Prove '..Said' where nothing that the law and all that it calls make is longer than what came in: it says more and counts as full. Else prove '..UptoSaid'. A law counts once. -/
mutual
def uptoBulk {H : Type} : DataW H → Nat
  | .lit (.string bytes) => bytes.length + 1
  | .lit _ => 1
  | .nil => 1
  | .ptr d => uptoBulk d + 1
  | .slice elems spare => uptoBulkAll elems + uptoBulkAll spare + 1
  | .agg parts => uptoBulkAll parts + 1
  | .iface _ d => uptoBulk d + 1
  | .map entries => uptoBulkEntries entries + 1
  | .held _ => 1
def uptoBulkAll {H : Type} : List (DataW H) → Nat
  | [] => 0
  | d :: r => uptoBulk d + uptoBulkAll r
def uptoBulkEntries {H : Type} : List (Lit × DataW H) → Nat
  | [] => 0
  | x :: r => uptoBulkEntry x + uptoBulkEntries r
def uptoBulkEntry {H : Type} : Lit × DataW H → Nat
  | (.string bytes, d) => bytes.length + uptoBulk d + 1
  | (_, d) => uptoBulk d + 1
 end
def uptoSmall : (H : Type) → List (DataW H) → Bool := fun _ ds => decide (uptoBulkAll ds ≤ 1048576)
def OpenSpec.upto (s : _root_.Go.ChangeSpec) : _root_.Go.OpenSpec := { _root_.Go.OpenSpec.ofChange s with cond := some uptoSmall }

/-- 'lotterylaw04.FracMakes', WHERE WHAT IT READS IS OF BULK AT MOST 1048576: true; the input reads as it did. -/
def fracMakesUptoRow : OpenClaim := { program := "yteclghokkdkolaa", sum := "3fda2d670de708d0ce2ee8d07ef987a267cc67343b93b18afa59e7db0ca9742d", func := "lottery/lotterylaw04.FracMakes", spec := "fracMakes", inPlace := ["internal/abi.NoEscape", "internal/bytealg.MakeNoZero"], unfollowed := true, recurses := true, apart := false, narrowed := true }
def FracMakesUptoSaid : Prop := fracMakesUptoRow.holds Try.pinned (OpenSpec.upto fracMakesSpec)

/-- 'lotterylaw04.FracOf', WHERE WHAT IT READS IS OF BULK AT MOST 1048576: true; the input reads as it did. -/
def fracOfUptoRow : OpenClaim := { program := "yteclghokkdkolaa", sum := "3fda2d670de708d0ce2ee8d07ef987a267cc67343b93b18afa59e7db0ca9742d", func := "lottery/lotterylaw04.FracOf", spec := "fracOf", inPlace := ["internal/abi.NoEscape", "internal/bytealg.MakeNoZero"], unfollowed := true, recurses := true, apart := false, narrowed := true }
def FracOfUptoSaid : Prop := fracOfUptoRow.holds Try.pinned (OpenSpec.upto fracOfSpec)

/-- 'lotterylaw04.FracCompares', WHERE WHAT IT READS IS OF BULK AT MOST 1048576: true; the input reads as it did. -/
def fracComparesUptoRow : OpenClaim := { program := "yteclghokkdkolaa", sum := "3fda2d670de708d0ce2ee8d07ef987a267cc67343b93b18afa59e7db0ca9742d", func := "lottery/lotterylaw04.FracCompares", spec := "fracCompares", inPlace := ["internal/abi.NoEscape", "internal/bytealg.MakeNoZero"], unfollowed := true, recurses := true, apart := false, narrowed := true }
def FracComparesUptoSaid : Prop := fracComparesUptoRow.holds Try.pinned (OpenSpec.upto fracComparesSpec)

/-- 'lotterylaw04.FracAdds', WHERE WHAT IT READS IS OF BULK AT MOST 1048576: true; the input reads as it did. -/
def fracAddsUptoRow : OpenClaim := { program := "yteclghokkdkolaa", sum := "3fda2d670de708d0ce2ee8d07ef987a267cc67343b93b18afa59e7db0ca9742d", func := "lottery/lotterylaw04.FracAdds", spec := "fracAdds", inPlace := ["internal/abi.NoEscape", "internal/bytealg.MakeNoZero"], unfollowed := true, recurses := true, apart := false, narrowed := true }
def FracAddsUptoSaid : Prop := fracAddsUptoRow.holds Try.pinned (OpenSpec.upto fracAddsSpec)

/-- 'lotterylaw04.FracMuls', WHERE WHAT IT READS IS OF BULK AT MOST 1048576: true; the input reads as it did. -/
def fracMulsUptoRow : OpenClaim := { program := "yteclghokkdkolaa", sum := "3fda2d670de708d0ce2ee8d07ef987a267cc67343b93b18afa59e7db0ca9742d", func := "lottery/lotterylaw04.FracMuls", spec := "fracMuls", inPlace := ["internal/abi.NoEscape", "internal/bytealg.MakeNoZero"], unfollowed := true, recurses := true, apart := false, narrowed := true }
def FracMulsUptoSaid : Prop := fracMulsUptoRow.holds Try.pinned (OpenSpec.upto fracMulsSpec)

/-- 'lotterylaw04.FracDecimals', WHERE WHAT IT READS IS OF BULK AT MOST 1048576: true; the input reads as it did. -/
def fracDecimalsUptoRow : OpenClaim := { program := "yteclghokkdkolaa", sum := "3fda2d670de708d0ce2ee8d07ef987a267cc67343b93b18afa59e7db0ca9742d", func := "lottery/lotterylaw04.FracDecimals", spec := "fracDecimals", inPlace := ["internal/abi.NoEscape", "internal/bytealg.MakeNoZero"], unfollowed := true, recurses := true, apart := false, narrowed := true }
def FracDecimalsUptoSaid : Prop := fracDecimalsUptoRow.holds Try.pinned (OpenSpec.upto fracDecimalsSpec)

/-- 'lotterylaw04.FracField', WHERE WHAT IT READS IS OF BULK AT MOST 1048576: true; the input reads as it did. -/
def fracFieldUptoRow : OpenClaim := { program := "yteclghokkdkolaa", sum := "3fda2d670de708d0ce2ee8d07ef987a267cc67343b93b18afa59e7db0ca9742d", func := "lottery/lotterylaw04.FracField", spec := "fracField", inPlace := ["internal/abi.NoEscape", "internal/bytealg.MakeNoZero"], unfollowed := true, recurses := true, apart := false, narrowed := true }
def FracFieldUptoSaid : Prop := fracFieldUptoRow.holds Try.pinned (OpenSpec.upto fracFieldSpec)

/-- 'lotterylaw04.FracOrders', WHERE WHAT IT READS IS OF BULK AT MOST 1048576: true; the input reads as it did. -/
def fracOrdersUptoRow : OpenClaim := { program := "yteclghokkdkolaa", sum := "3fda2d670de708d0ce2ee8d07ef987a267cc67343b93b18afa59e7db0ca9742d", func := "lottery/lotterylaw04.FracOrders", spec := "fracOrders", inPlace := ["internal/abi.NoEscape", "internal/bytealg.MakeNoZero"], unfollowed := true, recurses := true, apart := false, narrowed := true }
def FracOrdersUptoSaid : Prop := fracOrdersUptoRow.holds Try.pinned (OpenSpec.upto fracOrdersSpec)

/-- 'lotterylaw04.FracLowest', WHERE WHAT IT READS IS OF BULK AT MOST 1048576: true; the input reads as it did. -/
def fracLowestUptoRow : OpenClaim := { program := "yteclghokkdkolaa", sum := "3fda2d670de708d0ce2ee8d07ef987a267cc67343b93b18afa59e7db0ca9742d", func := "lottery/lotterylaw04.FracLowest", spec := "fracLowest", inPlace := ["internal/abi.NoEscape", "internal/bytealg.MakeNoZero"], unfollowed := true, recurses := true, apart := false, narrowed := true }
def FracLowestUptoSaid : Prop := fracLowestUptoRow.holds Try.pinned (OpenSpec.upto fracLowestSpec)

end Rows
end Go.Proofs.Yteclghokkdkolaa
