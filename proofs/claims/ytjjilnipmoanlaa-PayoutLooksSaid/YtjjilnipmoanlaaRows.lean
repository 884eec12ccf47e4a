/-
  No cell of these rows narrows 'for every input' (looked for: loops, veiled, ifaces, maps, wideKeys, modest, calm, conditions, laid).
  DERIVED. THE GIVEN ROWS OF THIS SEAT. 18 by the template 'for every input the law returns true; each argument reads behind the call as it read before'; 0 by the template 'total and deterministic' (their statements: YtjjilnipmoanlaaTotals.lean).
  GIVEN WITH THE SEED: the statements are not yours to turn. If you find one false, say at which input.
  Laid BY PROGRAM, IN A SANDBOX (cutbox-rows.mjs): the forced cells as the released guide's own fill.sh prints them over the translation dc1b334091c24f8c… (all of the seat's roots in one cut). By AI agents, Wed Nov 11 2026. No macro, syntax, notation, axiom, sorry.
-/
import Derived.Test.YtjjilnipmoanlaaChecked
import GoSem.Claim
import GoSem.ClaimJoined
import GoSem.ClaimMapViews
import Derived.JoinedTies
import Derived.KernelRfl
namespace Go.Proofs.Ytjjilnipmoanlaa
/- THE CELL 'sum', in the pinned program and in every row, IS THE sha256 OF THE DUMP (.gsa) THAT YtjjilnipmoanlaaProg.lean LOADS. Nothing in Lean hashes anything: it is a label: what it is worth is what the hold of that sum in a sandbox is worth. -/
noncomputable def Try.pinned : Pinned := { name := "ytjjilnipmoanlaa", sum := "dc1b334091c24f8c9efc7dde860a3ae87a5f388bed346dc83393dde79ed362a4", checked := Try.checked }
namespace Rows
def none {H : Type} : Left H := { results := [], args := [] }

/-- 'lotterylaw45.TaxChecks': WHATEVER THE INPUT: true; the input reads as it did. -/
def taxChecksSpec : ChangeSpec := { name := "taxChecks", fn := fun _ => fun
  | [d] => { results := [.lit (.bool true)], args := [d] }
  | _ => none }
def taxChecksRow : OpenClaim := { program := "ytjjilnipmoanlaa", sum := "dc1b334091c24f8c9efc7dde860a3ae87a5f388bed346dc83393dde79ed362a4", func := "lottery/lotterylaw45.TaxChecks", spec := "taxChecks", apart := false }
def TaxChecksSaid : Prop := taxChecksRow.holds Try.pinned (OpenSpec.ofChange taxChecksSpec)

/-- ITS FALSE NEIGHBOUR: 'it returns false'. Refute it at one input. -/
def taxChecksWrong : ChangeSpec := { name := "taxChecks", fn := fun _ => fun
  | [d] => { results := [.lit (.bool false)], args := [d] }
  | _ => none }
def TaxChecksWrongFalsely : Prop := taxChecksRow.holds Try.pinned (OpenSpec.ofChange taxChecksWrong)

/-- 'lotterylaw45.TaxComputes': WHATEVER THE INPUT: true; the input reads as it did. -/
def taxComputesSpec : ChangeSpec := { name := "taxComputes", fn := fun _ => fun
  | [d1, d2] => { results := [.lit (.bool true)], args := [d1, d2] }
  | _ => none }
def taxComputesRow : OpenClaim := { program := "ytjjilnipmoanlaa", sum := "dc1b334091c24f8c9efc7dde860a3ae87a5f388bed346dc83393dde79ed362a4", func := "lottery/lotterylaw45.TaxComputes", spec := "taxComputes", apart := false }
def TaxComputesSaid : Prop := taxComputesRow.holds Try.pinned (OpenSpec.ofChange taxComputesSpec)

/-- ITS FALSE NEIGHBOUR: 'it returns false'. Refute it at one input. -/
def taxComputesWrong : ChangeSpec := { name := "taxComputes", fn := fun _ => fun
  | [d1, d2] => { results := [.lit (.bool false)], args := [d1, d2] }
  | _ => none }
def TaxComputesWrongFalsely : Prop := taxComputesRow.holds Try.pinned (OpenSpec.ofChange taxComputesWrong)

/-- 'lotterylaw45.TaxMonotone': WHATEVER THE INPUT: true; the input reads as it did. -/
def taxMonotoneSpec : ChangeSpec := { name := "taxMonotone", fn := fun _ => fun
  | [d1, d2, d3] => { results := [.lit (.bool true)], args := [d1, d2, d3] }
  | _ => none }
def taxMonotoneRow : OpenClaim := { program := "ytjjilnipmoanlaa", sum := "dc1b334091c24f8c9efc7dde860a3ae87a5f388bed346dc83393dde79ed362a4", func := "lottery/lotterylaw45.TaxMonotone", spec := "taxMonotone", apart := false }
def TaxMonotoneSaid : Prop := taxMonotoneRow.holds Try.pinned (OpenSpec.ofChange taxMonotoneSpec)

/-- ITS FALSE NEIGHBOUR: 'it returns false'. Refute it at one input. -/
def taxMonotoneWrong : ChangeSpec := { name := "taxMonotone", fn := fun _ => fun
  | [d1, d2, d3] => { results := [.lit (.bool false)], args := [d1, d2, d3] }
  | _ => none }
def TaxMonotoneWrongFalsely : Prop := taxMonotoneRow.holds Try.pinned (OpenSpec.ofChange taxMonotoneWrong)

/-- 'lotterylaw45.TaxSteps': WHATEVER THE INPUT: true; the input reads as it did. -/
def taxStepsSpec : ChangeSpec := { name := "taxSteps", fn := fun _ => fun
  | [d1, d2] => { results := [.lit (.bool true)], args := [d1, d2] }
  | _ => none }
def taxStepsRow : OpenClaim := { program := "ytjjilnipmoanlaa", sum := "dc1b334091c24f8c9efc7dde860a3ae87a5f388bed346dc83393dde79ed362a4", func := "lottery/lotterylaw45.TaxSteps", spec := "taxSteps", apart := false }
def TaxStepsSaid : Prop := taxStepsRow.holds Try.pinned (OpenSpec.ofChange taxStepsSpec)

/-- ITS FALSE NEIGHBOUR: 'it returns false'. Refute it at one input. -/
def taxStepsWrong : ChangeSpec := { name := "taxSteps", fn := fun _ => fun
  | [d1, d2] => { results := [.lit (.bool false)], args := [d1, d2] }
  | _ => none }
def TaxStepsWrongFalsely : Prop := taxStepsRow.holds Try.pinned (OpenSpec.ofChange taxStepsWrong)

/-- 'lotterylaw45.TaxBounds': WHATEVER THE INPUT: true; the input reads as it did. -/
def taxBoundsSpec : ChangeSpec := { name := "taxBounds", fn := fun _ => fun
  | [d1, d2] => { results := [.lit (.bool true)], args := [d1, d2] }
  | _ => none }
def taxBoundsRow : OpenClaim := { program := "ytjjilnipmoanlaa", sum := "dc1b334091c24f8c9efc7dde860a3ae87a5f388bed346dc83393dde79ed362a4", func := "lottery/lotterylaw45.TaxBounds", spec := "taxBounds", apart := false }
def TaxBoundsSaid : Prop := taxBoundsRow.holds Try.pinned (OpenSpec.ofChange taxBoundsSpec)

/-- ITS FALSE NEIGHBOUR: 'it returns false'. Refute it at one input. -/
def taxBoundsWrong : ChangeSpec := { name := "taxBounds", fn := fun _ => fun
  | [d1, d2] => { results := [.lit (.bool false)], args := [d1, d2] }
  | _ => none }
def TaxBoundsWrongFalsely : Prop := taxBoundsRow.holds Try.pinned (OpenSpec.ofChange taxBoundsWrong)

/-- 'lotterylaw45.TaxParts': WHATEVER THE INPUT: true; the input reads as it did. -/
def taxPartsSpec : ChangeSpec := { name := "taxParts", fn := fun _ => fun
  | [d1, d2, d3] => { results := [.lit (.bool true)], args := [d1, d2, d3] }
  | _ => none }
def taxPartsRow : OpenClaim := { program := "ytjjilnipmoanlaa", sum := "dc1b334091c24f8c9efc7dde860a3ae87a5f388bed346dc83393dde79ed362a4", func := "lottery/lotterylaw45.TaxParts", spec := "taxParts", apart := false }
def TaxPartsSaid : Prop := taxPartsRow.holds Try.pinned (OpenSpec.ofChange taxPartsSpec)

/-- ITS FALSE NEIGHBOUR: 'it returns false'. Refute it at one input. -/
def taxPartsWrong : ChangeSpec := { name := "taxParts", fn := fun _ => fun
  | [d1, d2, d3] => { results := [.lit (.bool false)], args := [d1, d2, d3] }
  | _ => none }
def TaxPartsWrongFalsely : Prop := taxPartsRow.holds Try.pinned (OpenSpec.ofChange taxPartsWrong)

/-- 'lotterylaw46.DebtOffsets': WHATEVER THE INPUT: true; the input reads as it did. -/
def debtOffsetsSpec : ChangeSpec := { name := "debtOffsets", fn := fun _ => fun
  | [d1, d2] => { results := [.lit (.bool true)], args := [d1, d2] }
  | _ => none }
def debtOffsetsRow : OpenClaim := { program := "ytjjilnipmoanlaa", sum := "dc1b334091c24f8c9efc7dde860a3ae87a5f388bed346dc83393dde79ed362a4", func := "lottery/lotterylaw46.DebtOffsets", spec := "debtOffsets", unfollowed := true, recurses := true, apart := false }
def DebtOffsetsSaid : Prop := debtOffsetsRow.holds Try.pinned (OpenSpec.ofChange debtOffsetsSpec)

/-- ITS FALSE NEIGHBOUR: 'it returns false'. Refute it at one input. -/
def debtOffsetsWrong : ChangeSpec := { name := "debtOffsets", fn := fun _ => fun
  | [d1, d2] => { results := [.lit (.bool false)], args := [d1, d2] }
  | _ => none }
def DebtOffsetsWrongFalsely : Prop := debtOffsetsRow.holds Try.pinned (OpenSpec.ofChange debtOffsetsWrong)

/-- 'lotterylaw46.DebtReduces': WHATEVER THE INPUT: true; the input reads as it did. -/
def debtReducesSpec : ChangeSpec := { name := "debtReduces", fn := fun _ => fun
  | [d1, d2] => { results := [.lit (.bool true)], args := [d1, d2] }
  | _ => none }
def debtReducesRow : OpenClaim := { program := "ytjjilnipmoanlaa", sum := "dc1b334091c24f8c9efc7dde860a3ae87a5f388bed346dc83393dde79ed362a4", func := "lottery/lotterylaw46.DebtReduces", spec := "debtReduces", unfollowed := true, recurses := true, apart := false }
def DebtReducesSaid : Prop := debtReducesRow.holds Try.pinned (OpenSpec.ofChange debtReducesSpec)

/-- ITS FALSE NEIGHBOUR: 'it returns false'. Refute it at one input. -/
def debtReducesWrong : ChangeSpec := { name := "debtReduces", fn := fun _ => fun
  | [d1, d2] => { results := [.lit (.bool false)], args := [d1, d2] }
  | _ => none }
def DebtReducesWrongFalsely : Prop := debtReducesRow.holds Try.pinned (OpenSpec.ofChange debtReducesWrong)

/-- 'lotterylaw46.DebtOrders': WHATEVER THE INPUT: true; the input reads as it did. -/
def debtOrdersSpec : ChangeSpec := { name := "debtOrders", fn := fun _ => fun
  | [d1, d2] => { results := [.lit (.bool true)], args := [d1, d2] }
  | _ => none }
def debtOrdersRow : OpenClaim := { program := "ytjjilnipmoanlaa", sum := "dc1b334091c24f8c9efc7dde860a3ae87a5f388bed346dc83393dde79ed362a4", func := "lottery/lotterylaw46.DebtOrders", spec := "debtOrders", unfollowed := true, recurses := true, apart := false }
def DebtOrdersSaid : Prop := debtOrdersRow.holds Try.pinned (OpenSpec.ofChange debtOrdersSpec)

/-- ITS FALSE NEIGHBOUR: 'it returns false'. Refute it at one input. -/
def debtOrdersWrong : ChangeSpec := { name := "debtOrders", fn := fun _ => fun
  | [d1, d2] => { results := [.lit (.bool false)], args := [d1, d2] }
  | _ => none }
def DebtOrdersWrongFalsely : Prop := debtOrdersRow.holds Try.pinned (OpenSpec.ofChange debtOrdersWrong)

/-- 'lotterylaw46.DebtGrows': WHATEVER THE INPUT: true; the input reads as it did. -/
def debtGrowsSpec : ChangeSpec := { name := "debtGrows", fn := fun _ => fun
  | [d1, d2, d3] => { results := [.lit (.bool true)], args := [d1, d2, d3] }
  | _ => none }
def debtGrowsRow : OpenClaim := { program := "ytjjilnipmoanlaa", sum := "dc1b334091c24f8c9efc7dde860a3ae87a5f388bed346dc83393dde79ed362a4", func := "lottery/lotterylaw46.DebtGrows", spec := "debtGrows", unfollowed := true, recurses := true, apart := false }
def DebtGrowsSaid : Prop := debtGrowsRow.holds Try.pinned (OpenSpec.ofChange debtGrowsSpec)

/-- ITS FALSE NEIGHBOUR: 'it returns false'. Refute it at one input. -/
def debtGrowsWrong : ChangeSpec := { name := "debtGrows", fn := fun _ => fun
  | [d1, d2, d3] => { results := [.lit (.bool false)], args := [d1, d2, d3] }
  | _ => none }
def DebtGrowsWrongFalsely : Prop := debtGrowsRow.holds Try.pinned (OpenSpec.ofChange debtGrowsWrong)

/-- 'lotterylaw46.DebtRests': WHATEVER THE INPUT: true; the input reads as it did. -/
def debtRestsSpec : ChangeSpec := { name := "debtRests", fn := fun _ => fun
  | [d1, d2] => { results := [.lit (.bool true)], args := [d1, d2] }
  | _ => none }
def debtRestsRow : OpenClaim := { program := "ytjjilnipmoanlaa", sum := "dc1b334091c24f8c9efc7dde860a3ae87a5f388bed346dc83393dde79ed362a4", func := "lottery/lotterylaw46.DebtRests", spec := "debtRests", unfollowed := true, recurses := true, apart := false }
def DebtRestsSaid : Prop := debtRestsRow.holds Try.pinned (OpenSpec.ofChange debtRestsSpec)

/-- ITS FALSE NEIGHBOUR: 'it returns false'. Refute it at one input. -/
def debtRestsWrong : ChangeSpec := { name := "debtRests", fn := fun _ => fun
  | [d1, d2] => { results := [.lit (.bool false)], args := [d1, d2] }
  | _ => none }
def DebtRestsWrongFalsely : Prop := debtRestsRow.holds Try.pinned (OpenSpec.ofChange debtRestsWrong)

/-- 'lotterylaw46.DebtSplits': WHATEVER THE INPUT: true; the input reads as it did. -/
def debtSplitsSpec : ChangeSpec := { name := "debtSplits", fn := fun _ => fun
  | [d1, d2, d3] => { results := [.lit (.bool true)], args := [d1, d2, d3] }
  | _ => none }
def debtSplitsRow : OpenClaim := { program := "ytjjilnipmoanlaa", sum := "dc1b334091c24f8c9efc7dde860a3ae87a5f388bed346dc83393dde79ed362a4", func := "lottery/lotterylaw46.DebtSplits", spec := "debtSplits", unfollowed := true, recurses := true, apart := false }
def DebtSplitsSaid : Prop := debtSplitsRow.holds Try.pinned (OpenSpec.ofChange debtSplitsSpec)

/-- ITS FALSE NEIGHBOUR: 'it returns false'. Refute it at one input. -/
def debtSplitsWrong : ChangeSpec := { name := "debtSplits", fn := fun _ => fun
  | [d1, d2, d3] => { results := [.lit (.bool false)], args := [d1, d2, d3] }
  | _ => none }
def DebtSplitsWrongFalsely : Prop := debtSplitsRow.holds Try.pinned (OpenSpec.ofChange debtSplitsWrong)

/-- 'lotterylaw47.PayoutPays': WHATEVER THE INPUT: true; the input reads as it did. -/
def payoutPaysSpec : ChangeSpec := { name := "payoutPays", fn := fun _ => fun
  | [d1, d2, d3] => { results := [.lit (.bool true)], args := [d1, d2, d3] }
  | _ => none }
def payoutPaysRow : OpenClaim := { program := "ytjjilnipmoanlaa", sum := "dc1b334091c24f8c9efc7dde860a3ae87a5f388bed346dc83393dde79ed362a4", func := "lottery/lotterylaw47.PayoutPays", spec := "payoutPays", unfollowed := true, recurses := true, apart := false }
def PayoutPaysSaid : Prop := payoutPaysRow.holds Try.pinned (OpenSpec.ofChange payoutPaysSpec)

/-- ITS FALSE NEIGHBOUR: 'it returns false'. Refute it at one input. -/
def payoutPaysWrong : ChangeSpec := { name := "payoutPays", fn := fun _ => fun
  | [d1, d2, d3] => { results := [.lit (.bool false)], args := [d1, d2, d3] }
  | _ => none }
def PayoutPaysWrongFalsely : Prop := payoutPaysRow.holds Try.pinned (OpenSpec.ofChange payoutPaysWrong)

/-- 'lotterylaw47.PayoutRises': WHATEVER THE INPUT: true; the input reads as it did. -/
def payoutRisesSpec : ChangeSpec := { name := "payoutRises", fn := fun _ => fun
  | [d1, d2, d3] => { results := [.lit (.bool true)], args := [d1, d2, d3] }
  | _ => none }
def payoutRisesRow : OpenClaim := { program := "ytjjilnipmoanlaa", sum := "dc1b334091c24f8c9efc7dde860a3ae87a5f388bed346dc83393dde79ed362a4", func := "lottery/lotterylaw47.PayoutRises", spec := "payoutRises", unfollowed := true, recurses := true, apart := false }
def PayoutRisesSaid : Prop := payoutRisesRow.holds Try.pinned (OpenSpec.ofChange payoutRisesSpec)

/-- ITS FALSE NEIGHBOUR: 'it returns false'. Refute it at one input. -/
def payoutRisesWrong : ChangeSpec := { name := "payoutRises", fn := fun _ => fun
  | [d1, d2, d3] => { results := [.lit (.bool false)], args := [d1, d2, d3] }
  | _ => none }
def PayoutRisesWrongFalsely : Prop := payoutRisesRow.holds Try.pinned (OpenSpec.ofChange payoutRisesWrong)

/-- 'lotterylaw47.PayoutFree': WHATEVER THE INPUT: true; the input reads as it did. -/
def payoutFreeSpec : ChangeSpec := { name := "payoutFree", fn := fun _ => fun
  | [d] => { results := [.lit (.bool true)], args := [d] }
  | _ => none }
def payoutFreeRow : OpenClaim := { program := "ytjjilnipmoanlaa", sum := "dc1b334091c24f8c9efc7dde860a3ae87a5f388bed346dc83393dde79ed362a4", func := "lottery/lotterylaw47.PayoutFree", spec := "payoutFree", unfollowed := true, recurses := true, apart := false }
def PayoutFreeSaid : Prop := payoutFreeRow.holds Try.pinned (OpenSpec.ofChange payoutFreeSpec)

/-- ITS FALSE NEIGHBOUR: 'it returns false'. Refute it at one input. -/
def payoutFreeWrong : ChangeSpec := { name := "payoutFree", fn := fun _ => fun
  | [d] => { results := [.lit (.bool false)], args := [d] }
  | _ => none }
def PayoutFreeWrongFalsely : Prop := payoutFreeRow.holds Try.pinned (OpenSpec.ofChange payoutFreeWrong)

/-- 'lotterylaw47.PayoutExact': WHATEVER THE INPUT: true; the input reads as it did. -/
def payoutExactSpec : ChangeSpec := { name := "payoutExact", fn := fun _ => fun
  | [d1, d2, d3] => { results := [.lit (.bool true)], args := [d1, d2, d3] }
  | _ => none }
def payoutExactRow : OpenClaim := { program := "ytjjilnipmoanlaa", sum := "dc1b334091c24f8c9efc7dde860a3ae87a5f388bed346dc83393dde79ed362a4", func := "lottery/lotterylaw47.PayoutExact", spec := "payoutExact", unfollowed := true, recurses := true, apart := false }
def PayoutExactSaid : Prop := payoutExactRow.holds Try.pinned (OpenSpec.ofChange payoutExactSpec)

/-- ITS FALSE NEIGHBOUR: 'it returns false'. Refute it at one input. -/
def payoutExactWrong : ChangeSpec := { name := "payoutExact", fn := fun _ => fun
  | [d1, d2, d3] => { results := [.lit (.bool false)], args := [d1, d2, d3] }
  | _ => none }
def PayoutExactWrongFalsely : Prop := payoutExactRow.holds Try.pinned (OpenSpec.ofChange payoutExactWrong)

/-- 'lotterylaw47.PayoutLooks': WHATEVER THE INPUT: true; the input reads as it did. -/
def payoutLooksSpec : ChangeSpec := { name := "payoutLooks", fn := fun _ => fun
  | [d] => { results := [.lit (.bool true)], args := [d] }
  | _ => none }
def payoutLooksRow : OpenClaim := { program := "ytjjilnipmoanlaa", sum := "dc1b334091c24f8c9efc7dde860a3ae87a5f388bed346dc83393dde79ed362a4", func := "lottery/lotterylaw47.PayoutLooks", spec := "payoutLooks", unfollowed := true, recurses := true, apart := false }
def PayoutLooksSaid : Prop := payoutLooksRow.holds Try.pinned (OpenSpec.ofChange payoutLooksSpec)

/-- ITS FALSE NEIGHBOUR: 'it returns false'. Refute it at one input. -/
def payoutLooksWrong : ChangeSpec := { name := "payoutLooks", fn := fun _ => fun
  | [d] => { results := [.lit (.bool false)], args := [d] }
  | _ => none }
def PayoutLooksWrongFalsely : Prop := payoutLooksRow.holds Try.pinned (OpenSpec.ofChange payoutLooksWrong)

/-- 'lotterylaw47.PayoutSpoils': WHATEVER THE INPUT: true; the input reads as it did. -/
def payoutSpoilsSpec : ChangeSpec := { name := "payoutSpoils", fn := fun _ => fun
  | [d1, d2, d3] => { results := [.lit (.bool true)], args := [d1, d2, d3] }
  | _ => none }
def payoutSpoilsRow : OpenClaim := { program := "ytjjilnipmoanlaa", sum := "dc1b334091c24f8c9efc7dde860a3ae87a5f388bed346dc83393dde79ed362a4", func := "lottery/lotterylaw47.PayoutSpoils", spec := "payoutSpoils", unfollowed := true, recurses := true, apart := false }
def PayoutSpoilsSaid : Prop := payoutSpoilsRow.holds Try.pinned (OpenSpec.ofChange payoutSpoilsSpec)

/-- ITS FALSE NEIGHBOUR: 'it returns false'. Refute it at one input. -/
def payoutSpoilsWrong : ChangeSpec := { name := "payoutSpoils", fn := fun _ => fun
  | [d1, d2, d3] => { results := [.lit (.bool false)], args := [d1, d2, d3] }
  | _ => none }
def PayoutSpoilsWrongFalsely : Prop := payoutSpoilsRow.holds Try.pinned (OpenSpec.ofChange payoutSpoilsWrong)

/- THE SECOND FORM. 'bulk': how many values and letters a reading holds, each counted each time it is reached (what is shared counts as often as it is met; a slice's spare places count too). A statement '..UptoSaid' is the law's where the arguments, and the package variables that the reading takes, are together of bulk at most 1048576: NARROWER than '..Said'. Prove '..Said' where nothing that the law and all that it calls make is longer than what came in: it says more and counts as full. Else prove '..UptoSaid'. A law counts once. -/
mutual
def uptoBulk {H : Type} : DataW H → Nat
  | .lit (.string bytes) => bytes.length + 1
  | .lit _ => 1
  | .nil => 1
  | .ptr d => uptoBulk d + 1
  | .slice elems spare => uptoBulkAll elems + uptoBulkAll spare + 1
  | .agg parts => uptoBulkAll parts + 1
  | .iface _ d => uptoBulk d + 1
  | .map entries => uptoBulkEntries entries + 1
  | .held _ => 1
def uptoBulkAll {H : Type} : List (DataW H) → Nat
  | [] => 0
  | d :: r => uptoBulk d + uptoBulkAll r
def uptoBulkEntries {H : Type} : List (Lit × DataW H) → Nat
  | [] => 0
  | x :: r => uptoBulkEntry x + uptoBulkEntries r
def uptoBulkEntry {H : Type} : Lit × DataW H → Nat
  | (.string bytes, d) => bytes.length + uptoBulk d + 1
  | (_, d) => uptoBulk d + 1
 end
def uptoSmall : (H : Type) → List (DataW H) → Bool := fun _ ds => decide (uptoBulkAll ds ≤ 1048576)
def OpenSpec.upto (s : _root_.Go.ChangeSpec) : _root_.Go.OpenSpec := { _root_.Go.OpenSpec.ofChange s with cond := some uptoSmall }

/-- 'lotterylaw45.TaxChecks', WHERE WHAT IT READS IS OF BULK AT MOST 1048576: true; the input reads as it did. -/
def taxChecksUptoRow : OpenClaim := { program := "ytjjilnipmoanlaa", sum := "dc1b334091c24f8c9efc7dde860a3ae87a5f388bed346dc83393dde79ed362a4", func := "lottery/lotterylaw45.TaxChecks", spec := "taxChecks", apart := false, narrowed := true }
def TaxChecksUptoSaid : Prop := taxChecksUptoRow.holds Try.pinned (OpenSpec.upto taxChecksSpec)

/-- 'lotterylaw45.TaxComputes', WHERE WHAT IT READS IS OF BULK AT MOST 1048576: true; the input reads as it did. -/
def taxComputesUptoRow : OpenClaim := { program := "ytjjilnipmoanlaa", sum := "dc1b334091c24f8c9efc7dde860a3ae87a5f388bed346dc83393dde79ed362a4", func := "lottery/lotterylaw45.TaxComputes", spec := "taxComputes", apart := false, narrowed := true }
def TaxComputesUptoSaid : Prop := taxComputesUptoRow.holds Try.pinned (OpenSpec.upto taxComputesSpec)

/-- 'lotterylaw45.TaxMonotone', WHERE WHAT IT READS IS OF BULK AT MOST 1048576: true; the input reads as it did. -/
def taxMonotoneUptoRow : OpenClaim := { program := "ytjjilnipmoanlaa", sum := "dc1b334091c24f8c9efc7dde860a3ae87a5f388bed346dc83393dde79ed362a4", func := "lottery/lotterylaw45.TaxMonotone", spec := "taxMonotone", apart := false, narrowed := true }
def TaxMonotoneUptoSaid : Prop := taxMonotoneUptoRow.holds Try.pinned (OpenSpec.upto taxMonotoneSpec)

/-- 'lotterylaw45.TaxSteps', WHERE WHAT IT READS IS OF BULK AT MOST 1048576: true; the input reads as it did. -/
def taxStepsUptoRow : OpenClaim := { program := "ytjjilnipmoanlaa", sum := "dc1b334091c24f8c9efc7dde860a3ae87a5f388bed346dc83393dde79ed362a4", func := "lottery/lotterylaw45.TaxSteps", spec := "taxSteps", apart := false, narrowed := true }
def TaxStepsUptoSaid : Prop := taxStepsUptoRow.holds Try.pinned (OpenSpec.upto taxStepsSpec)

/-- 'lotterylaw45.TaxBounds', WHERE WHAT IT READS IS OF BULK AT MOST 1048576: true; the input reads as it did. -/
def taxBoundsUptoRow : OpenClaim := { program := "ytjjilnipmoanlaa", sum := "dc1b334091c24f8c9efc7dde860a3ae87a5f388bed346dc83393dde79ed362a4", func := "lottery/lotterylaw45.TaxBounds", spec := "taxBounds", apart := false, narrowed := true }
def TaxBoundsUptoSaid : Prop := taxBoundsUptoRow.holds Try.pinned (OpenSpec.upto taxBoundsSpec)

/-- 'lotterylaw45.TaxParts', WHERE WHAT IT READS IS OF BULK AT MOST 1048576: true; the input reads as it did. -/
def taxPartsUptoRow : OpenClaim := { program := "ytjjilnipmoanlaa", sum := "dc1b334091c24f8c9efc7dde860a3ae87a5f388bed346dc83393dde79ed362a4", func := "lottery/lotterylaw45.TaxParts", spec := "taxParts", apart := false, narrowed := true }
def TaxPartsUptoSaid : Prop := taxPartsUptoRow.holds Try.pinned (OpenSpec.upto taxPartsSpec)

/-- 'lotterylaw46.DebtOffsets', WHERE WHAT IT READS IS OF BULK AT MOST 1048576: true; the input reads as it did. -/
def debtOffsetsUptoRow : OpenClaim := { program := "ytjjilnipmoanlaa", sum := "dc1b334091c24f8c9efc7dde860a3ae87a5f388bed346dc83393dde79ed362a4", func := "lottery/lotterylaw46.DebtOffsets", spec := "debtOffsets", unfollowed := true, recurses := true, apart := false, narrowed := true }
def DebtOffsetsUptoSaid : Prop := debtOffsetsUptoRow.holds Try.pinned (OpenSpec.upto debtOffsetsSpec)

/-- 'lotterylaw46.DebtReduces', WHERE WHAT IT READS IS OF BULK AT MOST 1048576: true; the input reads as it did. -/
def debtReducesUptoRow : OpenClaim := { program := "ytjjilnipmoanlaa", sum := "dc1b334091c24f8c9efc7dde860a3ae87a5f388bed346dc83393dde79ed362a4", func := "lottery/lotterylaw46.DebtReduces", spec := "debtReduces", unfollowed := true, recurses := true, apart := false, narrowed := true }
def DebtReducesUptoSaid : Prop := debtReducesUptoRow.holds Try.pinned (OpenSpec.upto debtReducesSpec)

/-- 'lotterylaw46.DebtOrders', WHERE WHAT IT READS IS OF BULK AT MOST 1048576: true; the input reads as it did. -/
def debtOrdersUptoRow : OpenClaim := { program := "ytjjilnipmoanlaa", sum := "dc1b334091c24f8c9efc7dde860a3ae87a5f388bed346dc83393dde79ed362a4", func := "lottery/lotterylaw46.DebtOrders", spec := "debtOrders", unfollowed := true, recurses := true, apart := false, narrowed := true }
def DebtOrdersUptoSaid : Prop := debtOrdersUptoRow.holds Try.pinned (OpenSpec.upto debtOrdersSpec)

/-- 'lotterylaw46.DebtGrows', WHERE WHAT IT READS IS OF BULK AT MOST 1048576: true; the input reads as it did. -/
def debtGrowsUptoRow : OpenClaim := { program := "ytjjilnipmoanlaa", sum := "dc1b334091c24f8c9efc7dde860a3ae87a5f388bed346dc83393dde79ed362a4", func := "lottery/lotterylaw46.DebtGrows", spec := "debtGrows", unfollowed := true, recurses := true, apart := false, narrowed := true }
def DebtGrowsUptoSaid : Prop := debtGrowsUptoRow.holds Try.pinned (OpenSpec.upto debtGrowsSpec)

/-- 'lotterylaw46.DebtRests', WHERE WHAT IT READS IS OF BULK AT MOST 1048576: true; the input reads as it did. -/
def debtRestsUptoRow : OpenClaim := { program := "ytjjilnipmoanlaa", sum := "dc1b334091c24f8c9efc7dde860a3ae87a5f388bed346dc83393dde79ed362a4", func := "lottery/lotterylaw46.DebtRests", spec := "debtRests", unfollowed := true, recurses := true, apart := false, narrowed := true }
def DebtRestsUptoSaid : Prop := debtRestsUptoRow.holds Try.pinned (OpenSpec.upto debtRestsSpec)

/-- 'lotterylaw46.DebtSplits', WHERE WHAT IT READS IS OF BULK AT MOST 1048576: true; the input reads as it did. -/
def debtSplitsUptoRow : OpenClaim := { program := "ytjjilnipmoanlaa", sum := "dc1b334091c24f8c9efc7dde860a3ae87a5f388bed346dc83393dde79ed362a4", func := "lottery/lotterylaw46.DebtSplits", spec := "debtSplits", unfollowed := true, recurses := true, apart := false, narrowed := true }
def DebtSplitsUptoSaid : Prop := debtSplitsUptoRow.holds Try.pinned (OpenSpec.upto debtSplitsSpec)

/-- 'lotterylaw47.PayoutPays', WHERE WHAT IT READS IS OF BULK AT MOST 1048576: true; the input reads as it did. -/
def payoutPaysUptoRow : OpenClaim := { program := "ytjjilnipmoanlaa", sum := "dc1b334091c24f8c9efc7dde860a3ae87a5f388bed346dc83393dde79ed362a4", func := "lottery/lotterylaw47.PayoutPays", spec := "payoutPays", unfollowed := true, recurses := true, apart := false, narrowed := true }
def PayoutPaysUptoSaid : Prop := payoutPaysUptoRow.holds Try.pinned (OpenSpec.upto payoutPaysSpec)

/-- 'lotterylaw47.PayoutRises', WHERE WHAT IT READS IS OF BULK AT MOST 1048576: true; the input reads as it did. -/
def payoutRisesUptoRow : OpenClaim := { program := "ytjjilnipmoanlaa", sum := "dc1b334091c24f8c9efc7dde860a3ae87a5f388bed346dc83393dde79ed362a4", func := "lottery/lotterylaw47.PayoutRises", spec := "payoutRises", unfollowed := true, recurses := true, apart := false, narrowed := true }
def PayoutRisesUptoSaid : Prop := payoutRisesUptoRow.holds Try.pinned (OpenSpec.upto payoutRisesSpec)

/-- 'lotterylaw47.PayoutFree', WHERE WHAT IT READS IS OF BULK AT MOST 1048576: true; the input reads as it did. -/
def payoutFreeUptoRow : OpenClaim := { program := "ytjjilnipmoanlaa", sum := "dc1b334091c24f8c9efc7dde860a3ae87a5f388bed346dc83393dde79ed362a4", func := "lottery/lotterylaw47.PayoutFree", spec := "payoutFree", unfollowed := true, recurses := true, apart := false, narrowed := true }
def PayoutFreeUptoSaid : Prop := payoutFreeUptoRow.holds Try.pinned (OpenSpec.upto payoutFreeSpec)

/-- 'lotterylaw47.PayoutExact', WHERE WHAT IT READS IS OF BULK AT MOST 1048576: true; the input reads as it did. -/
def payoutExactUptoRow : OpenClaim := { program := "ytjjilnipmoanlaa", sum := "dc1b334091c24f8c9efc7dde860a3ae87a5f388bed346dc83393dde79ed362a4", func := "lottery/lotterylaw47.PayoutExact", spec := "payoutExact", unfollowed := true, recurses := true, apart := false, narrowed := true }
def PayoutExactUptoSaid : Prop := payoutExactUptoRow.holds Try.pinned (OpenSpec.upto payoutExactSpec)

/-- 'lotterylaw47.PayoutLooks', WHERE WHAT IT READS IS OF BULK AT MOST 1048576: true; the input reads as it did. -/
def payoutLooksUptoRow : OpenClaim := { program := "ytjjilnipmoanlaa", sum := "dc1b334091c24f8c9efc7dde860a3ae87a5f388bed346dc83393dde79ed362a4", func := "lottery/lotterylaw47.PayoutLooks", spec := "payoutLooks", unfollowed := true, recurses := true, apart := false, narrowed := true }
def PayoutLooksUptoSaid : Prop := payoutLooksUptoRow.holds Try.pinned (OpenSpec.upto payoutLooksSpec)

/-- 'lotterylaw47.PayoutSpoils', WHERE WHAT IT READS IS OF BULK AT MOST 1048576: true; the input reads as it did. -/
def payoutSpoilsUptoRow : OpenClaim := { program := "ytjjilnipmoanlaa", sum := "dc1b334091c24f8c9efc7dde860a3ae87a5f388bed346dc83393dde79ed362a4", func := "lottery/lotterylaw47.PayoutSpoils", spec := "payoutSpoils", unfollowed := true, recurses := true, apart := false, narrowed := true }
def PayoutSpoilsUptoSaid : Prop := payoutSpoilsUptoRow.holds Try.pinned (OpenSpec.upto payoutSpoilsSpec)

end Rows
end Go.Proofs.Ytjjilnipmoanlaa
