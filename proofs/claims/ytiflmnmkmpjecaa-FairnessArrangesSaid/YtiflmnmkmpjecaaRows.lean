/-
  No cell of these rows narrows 'for every input' (looked for: loops, veiled, ifaces, maps, wideKeys, modest, calm, conditions, laid).
  DERIVED. THE GIVEN ROWS OF THIS SEAT. 8 by the template 'for every input the law returns true; each argument reads behind the call as it read before'; 0 by the template 'total and deterministic' (their statements: YtiflmnmkmpjecaaTotals.lean).
  GIVEN WITH THE SEED: the statements are not yours to turn. If you find one false, say at which input.
  Laid BY PROGRAM, IN A SANDBOX (cutbox-rows.mjs): the forced cells as the released guide's own fill.sh prints them over the translation 00356ddc4224880d… (all of the seat's roots in one cut). By AI agents, Wed Nov 11 2026. No macro, syntax, notation, axiom, sorry.
-/
import Derived.Test.YtiflmnmkmpjecaaChecked
import GoSem.Claim
import GoSem.ClaimJoined
import GoSem.ClaimMapViews
import Derived.JoinedTies
import Derived.KernelRfl
namespace Go.Proofs.Ytiflmnmkmpjecaa
/- THE CELL 'sum', in the pinned program and in every row, IS THE sha256 OF THE DUMP (.gsa) THAT YtiflmnmkmpjecaaProg.lean LOADS. Nothing in Lean hashes anything: it is a label: what it is worth is what the hold of that sum in a sandbox is worth. -/
noncomputable def Try.pinned : Pinned := { name := "ytiflmnmkmpjecaa", sum := "00356ddc4224880dc967c3c7f6f26e9fc73ab35ef9cc2c3684bc7430c7343713", checked := Try.checked }
namespace Rows
def none {H : Type} : Left H := { results := [], args := [] }

/-- 'lotterylaw55.FairnessCounts': WHATEVER THE INPUT: true; the input reads as it did. -/
def fairnessCountsSpec : ChangeSpec := { name := "fairnessCounts", fn := fun _ => fun
  | [d1, d2] => { results := [.lit (.bool true)], args := [d1, d2] }
  | _ => none }
def fairnessCountsRow : OpenClaim := { program := "ytiflmnmkmpjecaa", sum := "00356ddc4224880dc967c3c7f6f26e9fc73ab35ef9cc2c3684bc7430c7343713", func := "lottery/lotterylaw55.FairnessCounts", spec := "fairnessCounts", unfollowed := true, recurses := true, apart := false }
def FairnessCountsSaid : Prop := fairnessCountsRow.holds Try.pinned (OpenSpec.ofChange fairnessCountsSpec)

/-- ITS FALSE NEIGHBOUR: 'it returns false'. Refute it at one input. -/
def fairnessCountsWrong : ChangeSpec := { name := "fairnessCounts", fn := fun _ => fun
  | [d1, d2] => { results := [.lit (.bool false)], args := [d1, d2] }
  | _ => none }
def FairnessCountsWrongFalsely : Prop := fairnessCountsRow.holds Try.pinned (OpenSpec.ofChange fairnessCountsWrong)

/-- 'lotterylaw55.FairnessSquares': WHATEVER THE INPUT: true; the input reads as it did. -/
def fairnessSquaresSpec : ChangeSpec := { name := "fairnessSquares", fn := fun _ => fun
  | [d1, d2] => { results := [.lit (.bool true)], args := [d1, d2] }
  | _ => none }
def fairnessSquaresRow : OpenClaim := { program := "ytiflmnmkmpjecaa", sum := "00356ddc4224880dc967c3c7f6f26e9fc73ab35ef9cc2c3684bc7430c7343713", func := "lottery/lotterylaw55.FairnessSquares", spec := "fairnessSquares", unfollowed := true, recurses := true, apart := false }
def FairnessSquaresSaid : Prop := fairnessSquaresRow.holds Try.pinned (OpenSpec.ofChange fairnessSquaresSpec)

/-- ITS FALSE NEIGHBOUR: 'it returns false'. Refute it at one input. -/
def fairnessSquaresWrong : ChangeSpec := { name := "fairnessSquares", fn := fun _ => fun
  | [d1, d2] => { results := [.lit (.bool false)], args := [d1, d2] }
  | _ => none }
def FairnessSquaresWrongFalsely : Prop := fairnessSquaresRow.holds Try.pinned (OpenSpec.ofChange fairnessSquaresWrong)

/-- 'lotterylaw55.FairnessScales': WHATEVER THE INPUT: true; the input reads as it did. -/
def fairnessScalesSpec : ChangeSpec := { name := "fairnessScales", fn := fun _ => fun
  | [d1, d2, d3] => { results := [.lit (.bool true)], args := [d1, d2, d3] }
  | _ => none }
def fairnessScalesRow : OpenClaim := { program := "ytiflmnmkmpjecaa", sum := "00356ddc4224880dc967c3c7f6f26e9fc73ab35ef9cc2c3684bc7430c7343713", func := "lottery/lotterylaw55.FairnessScales", spec := "fairnessScales", unfollowed := true, recurses := true, apart := false }
def FairnessScalesSaid : Prop := fairnessScalesRow.holds Try.pinned (OpenSpec.ofChange fairnessScalesSpec)

/-- ITS FALSE NEIGHBOUR: 'it returns false'. Refute it at one input. -/
def fairnessScalesWrong : ChangeSpec := { name := "fairnessScales", fn := fun _ => fun
  | [d1, d2, d3] => { results := [.lit (.bool false)], args := [d1, d2, d3] }
  | _ => none }
def FairnessScalesWrongFalsely : Prop := fairnessScalesRow.holds Try.pinned (OpenSpec.ofChange fairnessScalesWrong)

/-- 'lotterylaw55.FairnessTails': WHATEVER THE INPUT: true; the input reads as it did. -/
def fairnessTailsSpec : ChangeSpec := { name := "fairnessTails", fn := fun _ => fun
  | [d1, d2, d3] => { results := [.lit (.bool true)], args := [d1, d2, d3] }
  | _ => none }
def fairnessTailsRow : OpenClaim := { program := "ytiflmnmkmpjecaa", sum := "00356ddc4224880dc967c3c7f6f26e9fc73ab35ef9cc2c3684bc7430c7343713", func := "lottery/lotterylaw55.FairnessTails", spec := "fairnessTails", unfollowed := true, recurses := true, apart := false }
def FairnessTailsSaid : Prop := fairnessTailsRow.holds Try.pinned (OpenSpec.ofChange fairnessTailsSpec)

/-- ITS FALSE NEIGHBOUR: 'it returns false'. Refute it at one input. -/
def fairnessTailsWrong : ChangeSpec := { name := "fairnessTails", fn := fun _ => fun
  | [d1, d2, d3] => { results := [.lit (.bool false)], args := [d1, d2, d3] }
  | _ => none }
def FairnessTailsWrongFalsely : Prop := fairnessTailsRow.holds Try.pinned (OpenSpec.ofChange fairnessTailsWrong)

/-- 'lotterylaw55.FairnessRuns': WHATEVER THE INPUT: true; the input reads as it did. -/
def fairnessRunsSpec : ChangeSpec := { name := "fairnessRuns", fn := fun _ => fun
  | [d1, d2, d3] => { results := [.lit (.bool true)], args := [d1, d2, d3] }
  | _ => none }
def fairnessRunsRow : OpenClaim := { program := "ytiflmnmkmpjecaa", sum := "00356ddc4224880dc967c3c7f6f26e9fc73ab35ef9cc2c3684bc7430c7343713", func := "lottery/lotterylaw55.FairnessRuns", spec := "fairnessRuns", unfollowed := true, recurses := true, apart := false }
def FairnessRunsSaid : Prop := fairnessRunsRow.holds Try.pinned (OpenSpec.ofChange fairnessRunsSpec)

/-- ITS FALSE NEIGHBOUR: 'it returns false'. Refute it at one input. -/
def fairnessRunsWrong : ChangeSpec := { name := "fairnessRuns", fn := fun _ => fun
  | [d1, d2, d3] => { results := [.lit (.bool false)], args := [d1, d2, d3] }
  | _ => none }
def FairnessRunsWrongFalsely : Prop := fairnessRunsRow.holds Try.pinned (OpenSpec.ofChange fairnessRunsWrong)

/-- 'lotterylaw55.FairnessHits': WHATEVER THE INPUT: true; the input reads as it did. -/
def fairnessHitsSpec : ChangeSpec := { name := "fairnessHits", fn := fun _ => fun
  | [d1, d2, d3] => { results := [.lit (.bool true)], args := [d1, d2, d3] }
  | _ => none }
def fairnessHitsRow : OpenClaim := { program := "ytiflmnmkmpjecaa", sum := "00356ddc4224880dc967c3c7f6f26e9fc73ab35ef9cc2c3684bc7430c7343713", func := "lottery/lotterylaw55.FairnessHits", spec := "fairnessHits", unfollowed := true, recurses := true, apart := false }
def FairnessHitsSaid : Prop := fairnessHitsRow.holds Try.pinned (OpenSpec.ofChange fairnessHitsSpec)

/-- ITS FALSE NEIGHBOUR: 'it returns false'. Refute it at one input. -/
def fairnessHitsWrong : ChangeSpec := { name := "fairnessHits", fn := fun _ => fun
  | [d1, d2, d3] => { results := [.lit (.bool false)], args := [d1, d2, d3] }
  | _ => none }
def FairnessHitsWrongFalsely : Prop := fairnessHitsRow.holds Try.pinned (OpenSpec.ofChange fairnessHitsWrong)

/-- 'lotterylaw55.FairnessExact': WHATEVER THE INPUT: true; the input reads as it did. -/
def fairnessExactSpec : ChangeSpec := { name := "fairnessExact", fn := fun _ => fun
  | [d1, d2, d3] => { results := [.lit (.bool true)], args := [d1, d2, d3] }
  | _ => none }
def fairnessExactRow : OpenClaim := { program := "ytiflmnmkmpjecaa", sum := "00356ddc4224880dc967c3c7f6f26e9fc73ab35ef9cc2c3684bc7430c7343713", func := "lottery/lotterylaw55.FairnessExact", spec := "fairnessExact", unfollowed := true, recurses := true, apart := false }
def FairnessExactSaid : Prop := fairnessExactRow.holds Try.pinned (OpenSpec.ofChange fairnessExactSpec)

/-- ITS FALSE NEIGHBOUR: 'it returns false'. Refute it at one input. -/
def fairnessExactWrong : ChangeSpec := { name := "fairnessExact", fn := fun _ => fun
  | [d1, d2, d3] => { results := [.lit (.bool false)], args := [d1, d2, d3] }
  | _ => none }
def FairnessExactWrongFalsely : Prop := fairnessExactRow.holds Try.pinned (OpenSpec.ofChange fairnessExactWrong)

/-- 'lotterylaw55.FairnessArranges': WHATEVER THE INPUT: true; the input reads as it did. -/
def fairnessArrangesSpec : ChangeSpec := { name := "fairnessArranges", fn := fun _ => fun
  | [d1, d2, d3] => { results := [.lit (.bool true)], args := [d1, d2, d3] }
  | _ => none }
def fairnessArrangesRow : OpenClaim := { program := "ytiflmnmkmpjecaa", sum := "00356ddc4224880dc967c3c7f6f26e9fc73ab35ef9cc2c3684bc7430c7343713", func := "lottery/lotterylaw55.FairnessArranges", spec := "fairnessArranges", unfollowed := true, recurses := true, apart := false }
def FairnessArrangesSaid : Prop := fairnessArrangesRow.holds Try.pinned (OpenSpec.ofChange fairnessArrangesSpec)

/-- ITS FALSE NEIGHBOUR: 'it returns false'. Refute it at one input. -/
def fairnessArrangesWrong : ChangeSpec := { name := "fairnessArranges", fn := fun _ => fun
  | [d1, d2, d3] => { results := [.lit (.bool false)], args := [d1, d2, d3] }
  | _ => none }
def FairnessArrangesWrongFalsely : Prop := fairnessArrangesRow.holds Try.pinned (OpenSpec.ofChange fairnessArrangesWrong)

/- THE SECOND FORM. 'bulk': how many values and letters a reading holds, each counted each time it is reached (what is shared counts as often as it is met; a slice's spare places count too). A statement '..UptoSaid' is the law's where the arguments, and the package variables that the reading takes, are together of bulk at most 1048576: NARROWER than '..Said'. Prove '..Said' where nothing that the law and all that it calls make is longer than what came in: it says more and counts as full. Else prove '..UptoSaid'. A law counts once. -/
mutual
def uptoBulk {H : Type} : DataW H → Nat
  | .lit (.string bytes) => bytes.length + 1
  | .lit _ => 1
  | .nil => 1
  | .ptr d => uptoBulk d + 1
  | .slice elems spare => uptoBulkAll elems + uptoBulkAll spare + 1
  | .agg parts => uptoBulkAll parts + 1
  | .iface _ d => uptoBulk d + 1
  | .map entries => uptoBulkEntries entries + 1
  | .held _ => 1
def uptoBulkAll {H : Type} : List (DataW H) → Nat
  | [] => 0
  | d :: r => uptoBulk d + uptoBulkAll r
def uptoBulkEntries {H : Type} : List (Lit × DataW H) → Nat
  | [] => 0
  | x :: r => uptoBulkEntry x + uptoBulkEntries r
def uptoBulkEntry {H : Type} : Lit × DataW H → Nat
  | (.string bytes, d) => bytes.length + uptoBulk d + 1
  | (_, d) => uptoBulk d + 1
 end
def uptoSmall : (H : Type) → List (DataW H) → Bool := fun _ ds => decide (uptoBulkAll ds ≤ 1048576)
def OpenSpec.upto (s : _root_.Go.ChangeSpec) : _root_.Go.OpenSpec := { _root_.Go.OpenSpec.ofChange s with cond := some uptoSmall }

/-- 'lotterylaw55.FairnessCounts', WHERE WHAT IT READS IS OF BULK AT MOST 1048576: true; the input reads as it did. -/
def fairnessCountsUptoRow : OpenClaim := { program := "ytiflmnmkmpjecaa", sum := "00356ddc4224880dc967c3c7f6f26e9fc73ab35ef9cc2c3684bc7430c7343713", func := "lottery/lotterylaw55.FairnessCounts", spec := "fairnessCounts", unfollowed := true, recurses := true, apart := false, narrowed := true }
def FairnessCountsUptoSaid : Prop := fairnessCountsUptoRow.holds Try.pinned (OpenSpec.upto fairnessCountsSpec)

/-- 'lotterylaw55.FairnessSquares', WHERE WHAT IT READS IS OF BULK AT MOST 1048576: true; the input reads as it did. -/
def fairnessSquaresUptoRow : OpenClaim := { program := "ytiflmnmkmpjecaa", sum := "00356ddc4224880dc967c3c7f6f26e9fc73ab35ef9cc2c3684bc7430c7343713", func := "lottery/lotterylaw55.FairnessSquares", spec := "fairnessSquares", unfollowed := true, recurses := true, apart := false, narrowed := true }
def FairnessSquaresUptoSaid : Prop := fairnessSquaresUptoRow.holds Try.pinned (OpenSpec.upto fairnessSquaresSpec)

/-- 'lotterylaw55.FairnessScales', WHERE WHAT IT READS IS OF BULK AT MOST 1048576: true; the input reads as it did. -/
def fairnessScalesUptoRow : OpenClaim := { program := "ytiflmnmkmpjecaa", sum := "00356ddc4224880dc967c3c7f6f26e9fc73ab35ef9cc2c3684bc7430c7343713", func := "lottery/lotterylaw55.FairnessScales", spec := "fairnessScales", unfollowed := true, recurses := true, apart := false, narrowed := true }
def FairnessScalesUptoSaid : Prop := fairnessScalesUptoRow.holds Try.pinned (OpenSpec.upto fairnessScalesSpec)

/-- 'lotterylaw55.FairnessTails', WHERE WHAT IT READS IS OF BULK AT MOST 1048576: true; the input reads as it did. -/
def fairnessTailsUptoRow : OpenClaim := { program := "ytiflmnmkmpjecaa", sum := "00356ddc4224880dc967c3c7f6f26e9fc73ab35ef9cc2c3684bc7430c7343713", func := "lottery/lotterylaw55.FairnessTails", spec := "fairnessTails", unfollowed := true, recurses := true, apart := false, narrowed := true }
def FairnessTailsUptoSaid : Prop := fairnessTailsUptoRow.holds Try.pinned (OpenSpec.upto fairnessTailsSpec)

/-- 'lotterylaw55.FairnessRuns', WHERE WHAT IT READS IS OF BULK AT MOST 1048576: true; the input reads as it did. -/
def fairnessRunsUptoRow : OpenClaim := { program := "ytiflmnmkmpjecaa", sum := "00356ddc4224880dc967c3c7f6f26e9fc73ab35ef9cc2c3684bc7430c7343713", func := "lottery/lotterylaw55.FairnessRuns", spec := "fairnessRuns", unfollowed := true, recurses := true, apart := false, narrowed := true }
def FairnessRunsUptoSaid : Prop := fairnessRunsUptoRow.holds Try.pinned (OpenSpec.upto fairnessRunsSpec)

/-- 'lotterylaw55.FairnessHits', WHERE WHAT IT READS IS OF BULK AT MOST 1048576: true; the input reads as it did. -/
def fairnessHitsUptoRow : OpenClaim := { program := "ytiflmnmkmpjecaa", sum := "00356ddc4224880dc967c3c7f6f26e9fc73ab35ef9cc2c3684bc7430c7343713", func := "lottery/lotterylaw55.FairnessHits", spec := "fairnessHits", unfollowed := true, recurses := true, apart := false, narrowed := true }
def FairnessHitsUptoSaid : Prop := fairnessHitsUptoRow.holds Try.pinned (OpenSpec.upto fairnessHitsSpec)

/-- 'lotterylaw55.FairnessExact', WHERE WHAT IT READS IS OF BULK AT MOST 1048576: true; the input reads as it did. -/
def fairnessExactUptoRow : OpenClaim := { program := "ytiflmnmkmpjecaa", sum := "00356ddc4224880dc967c3c7f6f26e9fc73ab35ef9cc2c3684bc7430c7343713", func := "lottery/lotterylaw55.FairnessExact", spec := "fairnessExact", unfollowed := true, recurses := true, apart := false, narrowed := true }
def FairnessExactUptoSaid : Prop := fairnessExactUptoRow.holds Try.pinned (OpenSpec.upto fairnessExactSpec)

/-- 'lotterylaw55.FairnessArranges', WHERE WHAT IT READS IS OF BULK AT MOST 1048576: true; the input reads as it did. -/
def fairnessArrangesUptoRow : OpenClaim := { program := "ytiflmnmkmpjecaa", sum := "00356ddc4224880dc967c3c7f6f26e9fc73ab35ef9cc2c3684bc7430c7343713", func := "lottery/lotterylaw55.FairnessArranges", spec := "fairnessArranges", unfollowed := true, recurses := true, apart := false, narrowed := true }
def FairnessArrangesUptoSaid : Prop := fairnessArrangesUptoRow.holds Try.pinned (OpenSpec.upto fairnessArrangesSpec)

end Rows
end Go.Proofs.Ytiflmnmkmpjecaa
