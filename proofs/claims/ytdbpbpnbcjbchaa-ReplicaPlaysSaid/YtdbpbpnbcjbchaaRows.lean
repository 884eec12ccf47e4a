/-
  No cell of these rows narrows 'for every input' (looked for: loops, veiled, ifaces, maps, wideKeys, modest, calm, conditions, laid).
  DERIVED. THE GIVEN ROWS OF THIS SEAT. 7 by the template 'for every input the law returns true; each argument reads behind the call as it read before'; 0 by the template 'total and deterministic' (their statements: YtdbpbpnbcjbchaaTotals.lean).
  GIVEN WITH THE SEED: the statements are not yours to turn. If you find one false, say at which input.
  Laid BY PROGRAM, IN A SANDBOX (cutbox-rows.mjs): the forced cells as the released guide's own fill.sh prints them over the translation 7f34cf357d81ef7f… (all of the seat's roots in one cut). By AI agents, Wed Nov 11 2026. No macro, syntax, notation, axiom, sorry.
-/
import Derived.Test.YtdbpbpnbcjbchaaChecked
import GoSem.Claim
import GoSem.ClaimJoined
import GoSem.ClaimMapViews
import Derived.JoinedTies
import Derived.KernelRfl
namespace Go.Proofs.Ytdbpbpnbcjbchaa
/- THE CELL 'sum', in the pinned program and in every row, IS THE sha256 OF THE DUMP (.gsa) THAT YtdbpbpnbcjbchaaProg.lean LOADS. Nothing in Lean hashes anything: it is a label: what it is worth is what the hold of that sum in a sandbox is worth. -/
noncomputable def Try.pinned : Pinned := { name := "ytdbpbpnbcjbchaa", sum := "7f34cf357d81ef7f330f68d8f4f04523d480971bc832c28b37db595709ce44c5", checked := Try.checked }
namespace Rows
def none {H : Type} : Left H := { results := [], args := [] }

/-- 'lotterylaw51.ReplicaCommits': WHATEVER THE INPUT: true; the input reads as it did. -/
def replicaCommitsSpec : ChangeSpec := { name := "replicaCommits", fn := fun _ => fun
  | [d1, d2] => { results := [.lit (.bool true)], args := [d1, d2] }
  | _ => none }
def replicaCommitsRow : OpenClaim := { program := "ytdbpbpnbcjbchaa", sum := "7f34cf357d81ef7f330f68d8f4f04523d480971bc832c28b37db595709ce44c5", func := "lottery/lotterylaw51.ReplicaCommits", spec := "replicaCommits", apart := false }
def ReplicaCommitsSaid : Prop := replicaCommitsRow.holds Try.pinned (OpenSpec.ofChange replicaCommitsSpec)

/-- ITS FALSE NEIGHBOUR: 'it returns false'. Refute it at one input. -/
def replicaCommitsWrong : ChangeSpec := { name := "replicaCommits", fn := fun _ => fun
  | [d1, d2] => { results := [.lit (.bool false)], args := [d1, d2] }
  | _ => none }
def ReplicaCommitsWrongFalsely : Prop := replicaCommitsRow.holds Try.pinned (OpenSpec.ofChange replicaCommitsWrong)

/-- 'lotterylaw51.ReplicaOnce': WHATEVER THE INPUT: true; the input reads as it did. -/
def replicaOnceSpec : ChangeSpec := { name := "replicaOnce", fn := fun _ => fun
  | [d1, d2] => { results := [.lit (.bool true)], args := [d1, d2] }
  | _ => none }
def replicaOnceRow : OpenClaim := { program := "ytdbpbpnbcjbchaa", sum := "7f34cf357d81ef7f330f68d8f4f04523d480971bc832c28b37db595709ce44c5", func := "lottery/lotterylaw51.ReplicaOnce", spec := "replicaOnce", apart := false }
def ReplicaOnceSaid : Prop := replicaOnceRow.holds Try.pinned (OpenSpec.ofChange replicaOnceSpec)

/-- ITS FALSE NEIGHBOUR: 'it returns false'. Refute it at one input. -/
def replicaOnceWrong : ChangeSpec := { name := "replicaOnce", fn := fun _ => fun
  | [d1, d2] => { results := [.lit (.bool false)], args := [d1, d2] }
  | _ => none }
def ReplicaOnceWrongFalsely : Prop := replicaOnceRow.holds Try.pinned (OpenSpec.ofChange replicaOnceWrong)

/-- 'lotterylaw51.ReplicaHalf': WHATEVER THE INPUT: true; the input reads as it did. -/
def replicaHalfSpec : ChangeSpec := { name := "replicaHalf", fn := fun _ => fun
  | [d1, d2] => { results := [.lit (.bool true)], args := [d1, d2] }
  | _ => none }
def replicaHalfRow : OpenClaim := { program := "ytdbpbpnbcjbchaa", sum := "7f34cf357d81ef7f330f68d8f4f04523d480971bc832c28b37db595709ce44c5", func := "lottery/lotterylaw51.ReplicaHalf", spec := "replicaHalf", apart := false }
def ReplicaHalfSaid : Prop := replicaHalfRow.holds Try.pinned (OpenSpec.ofChange replicaHalfSpec)

/-- ITS FALSE NEIGHBOUR: 'it returns false'. Refute it at one input. -/
def replicaHalfWrong : ChangeSpec := { name := "replicaHalf", fn := fun _ => fun
  | [d1, d2] => { results := [.lit (.bool false)], args := [d1, d2] }
  | _ => none }
def ReplicaHalfWrongFalsely : Prop := replicaHalfRow.holds Try.pinned (OpenSpec.ofChange replicaHalfWrong)

/-- 'lotterylaw51.ReplicaStale': WHATEVER THE INPUT: true; the input reads as it did. -/
def replicaStaleSpec : ChangeSpec := { name := "replicaStale", fn := fun _ => fun
  | [d1, d2] => { results := [.lit (.bool true)], args := [d1, d2] }
  | _ => none }
def replicaStaleRow : OpenClaim := { program := "ytdbpbpnbcjbchaa", sum := "7f34cf357d81ef7f330f68d8f4f04523d480971bc832c28b37db595709ce44c5", func := "lottery/lotterylaw51.ReplicaStale", spec := "replicaStale", apart := false }
def ReplicaStaleSaid : Prop := replicaStaleRow.holds Try.pinned (OpenSpec.ofChange replicaStaleSpec)

/-- ITS FALSE NEIGHBOUR: 'it returns false'. Refute it at one input. -/
def replicaStaleWrong : ChangeSpec := { name := "replicaStale", fn := fun _ => fun
  | [d1, d2] => { results := [.lit (.bool false)], args := [d1, d2] }
  | _ => none }
def ReplicaStaleWrongFalsely : Prop := replicaStaleRow.holds Try.pinned (OpenSpec.ofChange replicaStaleWrong)

/-- 'lotterylaw51.ReplicaPlays': WHATEVER THE INPUT: true; the input reads as it did. -/
def replicaPlaysSpec : ChangeSpec := { name := "replicaPlays", fn := fun _ => fun
  | [d1, d2] => { results := [.lit (.bool true)], args := [d1, d2] }
  | _ => none }
def replicaPlaysRow : OpenClaim := { program := "ytdbpbpnbcjbchaa", sum := "7f34cf357d81ef7f330f68d8f4f04523d480971bc832c28b37db595709ce44c5", func := "lottery/lotterylaw51.ReplicaPlays", spec := "replicaPlays", apart := false }
def ReplicaPlaysSaid : Prop := replicaPlaysRow.holds Try.pinned (OpenSpec.ofChange replicaPlaysSpec)

/-- ITS FALSE NEIGHBOUR: 'it returns false'. Refute it at one input. -/
def replicaPlaysWrong : ChangeSpec := { name := "replicaPlays", fn := fun _ => fun
  | [d1, d2] => { results := [.lit (.bool false)], args := [d1, d2] }
  | _ => none }
def ReplicaPlaysWrongFalsely : Prop := replicaPlaysRow.holds Try.pinned (OpenSpec.ofChange replicaPlaysWrong)

/-- 'lotterylaw51.ReplicaLeads': WHATEVER THE INPUT: true; the input reads as it did. -/
def replicaLeadsSpec : ChangeSpec := { name := "replicaLeads", fn := fun _ => fun
  | [d1, d2] => { results := [.lit (.bool true)], args := [d1, d2] }
  | _ => none }
def replicaLeadsRow : OpenClaim := { program := "ytdbpbpnbcjbchaa", sum := "7f34cf357d81ef7f330f68d8f4f04523d480971bc832c28b37db595709ce44c5", func := "lottery/lotterylaw51.ReplicaLeads", spec := "replicaLeads", apart := false }
def ReplicaLeadsSaid : Prop := replicaLeadsRow.holds Try.pinned (OpenSpec.ofChange replicaLeadsSpec)

/-- ITS FALSE NEIGHBOUR: 'it returns false'. Refute it at one input. -/
def replicaLeadsWrong : ChangeSpec := { name := "replicaLeads", fn := fun _ => fun
  | [d1, d2] => { results := [.lit (.bool false)], args := [d1, d2] }
  | _ => none }
def ReplicaLeadsWrongFalsely : Prop := replicaLeadsRow.holds Try.pinned (OpenSpec.ofChange replicaLeadsWrong)

/-- 'lotterylaw51.ReplicaErrors': WHATEVER THE INPUT: true; the input reads as it did. -/
def replicaErrorsSpec : ChangeSpec := { name := "replicaErrors", fn := fun _ => fun
  | [d1, d2] => { results := [.lit (.bool true)], args := [d1, d2] }
  | _ => none }
def replicaErrorsRow : OpenClaim := { program := "ytdbpbpnbcjbchaa", sum := "7f34cf357d81ef7f330f68d8f4f04523d480971bc832c28b37db595709ce44c5", func := "lottery/lotterylaw51.ReplicaErrors", spec := "replicaErrors", apart := false }
def ReplicaErrorsSaid : Prop := replicaErrorsRow.holds Try.pinned (OpenSpec.ofChange replicaErrorsSpec)

/-- ITS FALSE NEIGHBOUR: 'it returns false'. Refute it at one input. -/
def replicaErrorsWrong : ChangeSpec := { name := "replicaErrors", fn := fun _ => fun
  | [d1, d2] => { results := [.lit (.bool false)], args := [d1, d2] }
  | _ => none }
def ReplicaErrorsWrongFalsely : Prop := replicaErrorsRow.holds Try.pinned (OpenSpec.ofChange replicaErrorsWrong)

/- THE SECOND FORM. 'bulk': how many values and letters a reading holds, each counted each time it is reached (what is shared counts as often as it is met; a slice's spare places count too). A statement '..UptoSaid' is the law's where the arguments, and the package variables that the reading takes, are together of bulk at most 1048576: NARROWER than '..Said'. Prove '..Said' where nothing that the law and all that it calls make is longer than what came in: it says more and counts as full. Else prove '..UptoSaid'. A law counts once. -/
mutual
def uptoBulk {H : Type} : DataW H → Nat
  | .lit (.string bytes) => bytes.length + 1
  | .lit _ => 1
  | .nil => 1
  | .ptr d => uptoBulk d + 1
  | .slice elems spare => uptoBulkAll elems + uptoBulkAll spare + 1
  | .agg parts => uptoBulkAll parts + 1
  | .iface _ d => uptoBulk d + 1
  | .map entries => uptoBulkEntries entries + 1
  | .held _ => 1
def uptoBulkAll {H : Type} : List (DataW H) → Nat
  | [] => 0
  | d :: r => uptoBulk d + uptoBulkAll r
def uptoBulkEntries {H : Type} : List (Lit × DataW H) → Nat
  | [] => 0
  | x :: r => uptoBulkEntry x + uptoBulkEntries r
def uptoBulkEntry {H : Type} : Lit × DataW H → Nat
  | (.string bytes, d) => bytes.length + uptoBulk d + 1
  | (_, d) => uptoBulk d + 1
 end
def uptoSmall : (H : Type) → List (DataW H) → Bool := fun _ ds => decide (uptoBulkAll ds ≤ 1048576)
def OpenSpec.upto (s : _root_.Go.ChangeSpec) : _root_.Go.OpenSpec := { _root_.Go.OpenSpec.ofChange s with cond := some uptoSmall }

/-- 'lotterylaw51.ReplicaCommits', WHERE WHAT IT READS IS OF BULK AT MOST 1048576: true; the input reads as it did. -/
def replicaCommitsUptoRow : OpenClaim := { program := "ytdbpbpnbcjbchaa", sum := "7f34cf357d81ef7f330f68d8f4f04523d480971bc832c28b37db595709ce44c5", func := "lottery/lotterylaw51.ReplicaCommits", spec := "replicaCommits", apart := false, narrowed := true }
def ReplicaCommitsUptoSaid : Prop := replicaCommitsUptoRow.holds Try.pinned (OpenSpec.upto replicaCommitsSpec)

/-- 'lotterylaw51.ReplicaOnce', WHERE WHAT IT READS IS OF BULK AT MOST 1048576: true; the input reads as it did. -/
def replicaOnceUptoRow : OpenClaim := { program := "ytdbpbpnbcjbchaa", sum := "7f34cf357d81ef7f330f68d8f4f04523d480971bc832c28b37db595709ce44c5", func := "lottery/lotterylaw51.ReplicaOnce", spec := "replicaOnce", apart := false, narrowed := true }
def ReplicaOnceUptoSaid : Prop := replicaOnceUptoRow.holds Try.pinned (OpenSpec.upto replicaOnceSpec)

/-- 'lotterylaw51.ReplicaHalf', WHERE WHAT IT READS IS OF BULK AT MOST 1048576: true; the input reads as it did. -/
def replicaHalfUptoRow : OpenClaim := { program := "ytdbpbpnbcjbchaa", sum := "7f34cf357d81ef7f330f68d8f4f04523d480971bc832c28b37db595709ce44c5", func := "lottery/lotterylaw51.ReplicaHalf", spec := "replicaHalf", apart := false, narrowed := true }
def ReplicaHalfUptoSaid : Prop := replicaHalfUptoRow.holds Try.pinned (OpenSpec.upto replicaHalfSpec)

/-- 'lotterylaw51.ReplicaStale', WHERE WHAT IT READS IS OF BULK AT MOST 1048576: true; the input reads as it did. -/
def replicaStaleUptoRow : OpenClaim := { program := "ytdbpbpnbcjbchaa", sum := "7f34cf357d81ef7f330f68d8f4f04523d480971bc832c28b37db595709ce44c5", func := "lottery/lotterylaw51.ReplicaStale", spec := "replicaStale", apart := false, narrowed := true }
def ReplicaStaleUptoSaid : Prop := replicaStaleUptoRow.holds Try.pinned (OpenSpec.upto replicaStaleSpec)

/-- 'lotterylaw51.ReplicaPlays', WHERE WHAT IT READS IS OF BULK AT MOST 1048576: true; the input reads as it did. -/
def replicaPlaysUptoRow : OpenClaim := { program := "ytdbpbpnbcjbchaa", sum := "7f34cf357d81ef7f330f68d8f4f04523d480971bc832c28b37db595709ce44c5", func := "lottery/lotterylaw51.ReplicaPlays", spec := "replicaPlays", apart := false, narrowed := true }
def ReplicaPlaysUptoSaid : Prop := replicaPlaysUptoRow.holds Try.pinned (OpenSpec.upto replicaPlaysSpec)

/-- 'lotterylaw51.ReplicaLeads', WHERE WHAT IT READS IS OF BULK AT MOST 1048576: true; the input reads as it did. -/
def replicaLeadsUptoRow : OpenClaim := { program := "ytdbpbpnbcjbchaa", sum := "7f34cf357d81ef7f330f68d8f4f04523d480971bc832c28b37db595709ce44c5", func := "lottery/lotterylaw51.ReplicaLeads", spec := "replicaLeads", apart := false, narrowed := true }
def ReplicaLeadsUptoSaid : Prop := replicaLeadsUptoRow.holds Try.pinned (OpenSpec.upto replicaLeadsSpec)

/-- 'lotterylaw51.ReplicaErrors', WHERE WHAT IT READS IS OF BULK AT MOST 1048576: true; the input reads as it did. -/
def replicaErrorsUptoRow : OpenClaim := { program := "ytdbpbpnbcjbchaa", sum := "7f34cf357d81ef7f330f68d8f4f04523d480971bc832c28b37db595709ce44c5", func := "lottery/lotterylaw51.ReplicaErrors", spec := "replicaErrors", apart := false, narrowed := true }
def ReplicaErrorsUptoSaid : Prop := replicaErrorsUptoRow.holds Try.pinned (OpenSpec.upto replicaErrorsSpec)

end Rows
end Go.Proofs.Ytdbpbpnbcjbchaa
