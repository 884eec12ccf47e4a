/-
  No cell of these rows narrows 'for every input' (looked for: loops, veiled, ifaces, maps, wideKeys, modest, calm, conditions, laid).
  DERIVED. THE GIVEN ROWS OF THIS SEAT. 15 by the template 'for every input the law returns true; each argument reads behind the call as it read before'; 0 by the template 'total and deterministic' (their statements: YtpalmlcepppifaaTotals.lean).
  GIVEN WITH THE SEED: the statements are not yours to turn. If you find one false, say at which input.
  Laid BY PROGRAM, IN A SANDBOX (cutbox-rows.mjs): the forced cells as the released guide's own fill.sh prints them over the translation 8fa55628b143774c… (all of the seat's roots in one cut). By AI agents, Wed Nov 11 2026. No macro, syntax, notation, axiom, sorry.
-/
import Derived.Test.YtpalmlcepppifaaChecked
import GoSem.Claim
import GoSem.ClaimJoined
import GoSem.ClaimMapViews
import Derived.JoinedTies
import Derived.KernelRfl
namespace Go.Proofs.Ytpalmlcepppifaa
/- THE CELL 'sum', in the pinned program and in every row, IS THE sha256 OF THE DUMP (.gsa) THAT YtpalmlcepppifaaProg.lean LOADS. Nothing in Lean hashes anything: it is a label: what it is worth is what the hold of that sum in a sandbox is worth. -/
noncomputable def Try.pinned : Pinned := { name := "ytpalmlcepppifaa", sum := "8fa55628b143774c8ee48eb86dd36a9deae45d130e1add96d5d48449634e1072", checked := Try.checked }
namespace Rows
def none {H : Type} : Left H := { results := [], args := [] }

/-- 'lotterylaw44.ClaimChannel': WHATEVER THE INPUT: true; the input reads as it did. -/
def claimChannelSpec : ChangeSpec := { name := "claimChannel", fn := fun _ => fun
  | [d1, d2, d3] => { results := [.lit (.bool true)], args := [d1, d2, d3] }
  | _ => none }
def claimChannelRow : OpenClaim := { program := "ytpalmlcepppifaa", sum := "8fa55628b143774c8ee48eb86dd36a9deae45d130e1add96d5d48449634e1072", func := "lottery/lotterylaw44.ClaimChannel", spec := "claimChannel", apart := false }
def ClaimChannelSaid : Prop := claimChannelRow.holds Try.pinned (OpenSpec.ofChange claimChannelSpec)

/-- ITS FALSE NEIGHBOUR: 'it returns false'. Refute it at one input. -/
def claimChannelWrong : ChangeSpec := { name := "claimChannel", fn := fun _ => fun
  | [d1, d2, d3] => { results := [.lit (.bool false)], args := [d1, d2, d3] }
  | _ => none }
def ClaimChannelWrongFalsely : Prop := claimChannelRow.holds Try.pinned (OpenSpec.ofChange claimChannelWrong)

/-- 'lotterylaw44.ClaimAlone': WHATEVER THE INPUT: true; the input reads as it did. -/
def claimAloneSpec : ChangeSpec := { name := "claimAlone", fn := fun _ => fun
  | [d1, d2, d3] => { results := [.lit (.bool true)], args := [d1, d2, d3] }
  | _ => none }
def claimAloneRow : OpenClaim := { program := "ytpalmlcepppifaa", sum := "8fa55628b143774c8ee48eb86dd36a9deae45d130e1add96d5d48449634e1072", func := "lottery/lotterylaw44.ClaimAlone", spec := "claimAlone", apart := false }
def ClaimAloneSaid : Prop := claimAloneRow.holds Try.pinned (OpenSpec.ofChange claimAloneSpec)

/-- ITS FALSE NEIGHBOUR: 'it returns false'. Refute it at one input. -/
def claimAloneWrong : ChangeSpec := { name := "claimAlone", fn := fun _ => fun
  | [d1, d2, d3] => { results := [.lit (.bool false)], args := [d1, d2, d3] }
  | _ => none }
def ClaimAloneWrongFalsely : Prop := claimAloneRow.holds Try.pinned (OpenSpec.ofChange claimAloneWrong)

/-- 'lotterylaw49.RetailerTerms': WHATEVER THE INPUT: true; the input reads as it did. -/
def retailerTermsSpec : ChangeSpec := { name := "retailerTerms", fn := fun _ => fun
  | [d] => { results := [.lit (.bool true)], args := [d] }
  | _ => none }
def retailerTermsRow : OpenClaim := { program := "ytpalmlcepppifaa", sum := "8fa55628b143774c8ee48eb86dd36a9deae45d130e1add96d5d48449634e1072", func := "lottery/lotterylaw49.RetailerTerms", spec := "retailerTerms", apart := false }
def RetailerTermsSaid : Prop := retailerTermsRow.holds Try.pinned (OpenSpec.ofChange retailerTermsSpec)

/-- ITS FALSE NEIGHBOUR: 'it returns false'. Refute it at one input. -/
def retailerTermsWrong : ChangeSpec := { name := "retailerTerms", fn := fun _ => fun
  | [d] => { results := [.lit (.bool false)], args := [d] }
  | _ => none }
def RetailerTermsWrongFalsely : Prop := retailerTermsRow.holds Try.pinned (OpenSpec.ofChange retailerTermsWrong)

/-- 'lotterylaw49.RetailerDoes': WHATEVER THE INPUT: true; the input reads as it did. -/
def retailerDoesSpec : ChangeSpec := { name := "retailerDoes", fn := fun _ => fun
  | [d1, d2] => { results := [.lit (.bool true)], args := [d1, d2] }
  | _ => none }
def retailerDoesRow : OpenClaim := { program := "ytpalmlcepppifaa", sum := "8fa55628b143774c8ee48eb86dd36a9deae45d130e1add96d5d48449634e1072", func := "lottery/lotterylaw49.RetailerDoes", spec := "retailerDoes", apart := false }
def RetailerDoesSaid : Prop := retailerDoesRow.holds Try.pinned (OpenSpec.ofChange retailerDoesSpec)

/-- ITS FALSE NEIGHBOUR: 'it returns false'. Refute it at one input. -/
def retailerDoesWrong : ChangeSpec := { name := "retailerDoes", fn := fun _ => fun
  | [d1, d2] => { results := [.lit (.bool false)], args := [d1, d2] }
  | _ => none }
def RetailerDoesWrongFalsely : Prop := retailerDoesRow.holds Try.pinned (OpenSpec.ofChange retailerDoesWrong)

/-- 'lotterylaw49.RetailerSettles': WHATEVER THE INPUT: true; the input reads as it did. -/
def retailerSettlesSpec : ChangeSpec := { name := "retailerSettles", fn := fun _ => fun
  | [d1, d2] => { results := [.lit (.bool true)], args := [d1, d2] }
  | _ => none }
def retailerSettlesRow : OpenClaim := { program := "ytpalmlcepppifaa", sum := "8fa55628b143774c8ee48eb86dd36a9deae45d130e1add96d5d48449634e1072", func := "lottery/lotterylaw49.RetailerSettles", spec := "retailerSettles", apart := false }
def RetailerSettlesSaid : Prop := retailerSettlesRow.holds Try.pinned (OpenSpec.ofChange retailerSettlesSpec)

/-- ITS FALSE NEIGHBOUR: 'it returns false'. Refute it at one input. -/
def retailerSettlesWrong : ChangeSpec := { name := "retailerSettles", fn := fun _ => fun
  | [d1, d2] => { results := [.lit (.bool false)], args := [d1, d2] }
  | _ => none }
def RetailerSettlesWrongFalsely : Prop := retailerSettlesRow.holds Try.pinned (OpenSpec.ofChange retailerSettlesWrong)

/-- 'lotterylaw49.RetailerEarns': WHATEVER THE INPUT: true; the input reads as it did. -/
def retailerEarnsSpec : ChangeSpec := { name := "retailerEarns", fn := fun _ => fun
  | [d1, d2] => { results := [.lit (.bool true)], args := [d1, d2] }
  | _ => none }
def retailerEarnsRow : OpenClaim := { program := "ytpalmlcepppifaa", sum := "8fa55628b143774c8ee48eb86dd36a9deae45d130e1add96d5d48449634e1072", func := "lottery/lotterylaw49.RetailerEarns", spec := "retailerEarns", apart := false }
def RetailerEarnsSaid : Prop := retailerEarnsRow.holds Try.pinned (OpenSpec.ofChange retailerEarnsSpec)

/-- ITS FALSE NEIGHBOUR: 'it returns false'. Refute it at one input. -/
def retailerEarnsWrong : ChangeSpec := { name := "retailerEarns", fn := fun _ => fun
  | [d1, d2] => { results := [.lit (.bool false)], args := [d1, d2] }
  | _ => none }
def RetailerEarnsWrongFalsely : Prop := retailerEarnsRow.holds Try.pinned (OpenSpec.ofChange retailerEarnsWrong)

/-- 'lotterylaw49.RetailerCredit': WHATEVER THE INPUT: true; the input reads as it did. -/
def retailerCreditSpec : ChangeSpec := { name := "retailerCredit", fn := fun _ => fun
  | [d1, d2] => { results := [.lit (.bool true)], args := [d1, d2] }
  | _ => none }
def retailerCreditRow : OpenClaim := { program := "ytpalmlcepppifaa", sum := "8fa55628b143774c8ee48eb86dd36a9deae45d130e1add96d5d48449634e1072", func := "lottery/lotterylaw49.RetailerCredit", spec := "retailerCredit", apart := false }
def RetailerCreditSaid : Prop := retailerCreditRow.holds Try.pinned (OpenSpec.ofChange retailerCreditSpec)

/-- ITS FALSE NEIGHBOUR: 'it returns false'. Refute it at one input. -/
def retailerCreditWrong : ChangeSpec := { name := "retailerCredit", fn := fun _ => fun
  | [d1, d2] => { results := [.lit (.bool false)], args := [d1, d2] }
  | _ => none }
def RetailerCreditWrongFalsely : Prop := retailerCreditRow.holds Try.pinned (OpenSpec.ofChange retailerCreditWrong)

/-- 'lotterylaw49.RetailerErrors': WHATEVER THE INPUT: true; the input reads as it did. -/
def retailerErrorsSpec : ChangeSpec := { name := "retailerErrors", fn := fun _ => fun
  | [d1, d2] => { results := [.lit (.bool true)], args := [d1, d2] }
  | _ => none }
def retailerErrorsRow : OpenClaim := { program := "ytpalmlcepppifaa", sum := "8fa55628b143774c8ee48eb86dd36a9deae45d130e1add96d5d48449634e1072", func := "lottery/lotterylaw49.RetailerErrors", spec := "retailerErrors", apart := false }
def RetailerErrorsSaid : Prop := retailerErrorsRow.holds Try.pinned (OpenSpec.ofChange retailerErrorsSpec)

/-- ITS FALSE NEIGHBOUR: 'it returns false'. Refute it at one input. -/
def retailerErrorsWrong : ChangeSpec := { name := "retailerErrors", fn := fun _ => fun
  | [d1, d2] => { results := [.lit (.bool false)], args := [d1, d2] }
  | _ => none }
def RetailerErrorsWrongFalsely : Prop := retailerErrorsRow.holds Try.pinned (OpenSpec.ofChange retailerErrorsWrong)

/-- 'lotterylaw49.RetailerOrders': WHATEVER THE INPUT: true; the input reads as it did. -/
def retailerOrdersSpec : ChangeSpec := { name := "retailerOrders", fn := fun _ => fun
  | [d1, d2] => { results := [.lit (.bool true)], args := [d1, d2] }
  | _ => none }
def retailerOrdersRow : OpenClaim := { program := "ytpalmlcepppifaa", sum := "8fa55628b143774c8ee48eb86dd36a9deae45d130e1add96d5d48449634e1072", func := "lottery/lotterylaw49.RetailerOrders", spec := "retailerOrders", apart := false }
def RetailerOrdersSaid : Prop := retailerOrdersRow.holds Try.pinned (OpenSpec.ofChange retailerOrdersSpec)

/-- ITS FALSE NEIGHBOUR: 'it returns false'. Refute it at one input. -/
def retailerOrdersWrong : ChangeSpec := { name := "retailerOrders", fn := fun _ => fun
  | [d1, d2] => { results := [.lit (.bool false)], args := [d1, d2] }
  | _ => none }
def RetailerOrdersWrongFalsely : Prop := retailerOrdersRow.holds Try.pinned (OpenSpec.ofChange retailerOrdersWrong)

/-- 'lotterylaw49.RetailerNobody': WHATEVER THE INPUT: true; the input reads as it did. -/
def retailerNobodySpec : ChangeSpec := { name := "retailerNobody", fn := fun _ => fun
  | [d] => { results := [.lit (.bool true)], args := [d] }
  | _ => none }
def retailerNobodyRow : OpenClaim := { program := "ytpalmlcepppifaa", sum := "8fa55628b143774c8ee48eb86dd36a9deae45d130e1add96d5d48449634e1072", func := "lottery/lotterylaw49.RetailerNobody", spec := "retailerNobody", apart := false }
def RetailerNobodySaid : Prop := retailerNobodyRow.holds Try.pinned (OpenSpec.ofChange retailerNobodySpec)

/-- ITS FALSE NEIGHBOUR: 'it returns false'. Refute it at one input. -/
def retailerNobodyWrong : ChangeSpec := { name := "retailerNobody", fn := fun _ => fun
  | [d] => { results := [.lit (.bool false)], args := [d] }
  | _ => none }
def RetailerNobodyWrongFalsely : Prop := retailerNobodyRow.holds Try.pinned (OpenSpec.ofChange retailerNobodyWrong)

/-- 'lotterylaw44.ClaimSums': WHATEVER THE INPUT: true; the input reads as it did. -/
def claimSumsSpec : ChangeSpec := { name := "claimSums", fn := fun _ => fun
  | [d1, d2] => { results := [.lit (.bool true)], args := [d1, d2] }
  | _ => none }
def claimSumsRow : OpenClaim := { program := "ytpalmlcepppifaa", sum := "8fa55628b143774c8ee48eb86dd36a9deae45d130e1add96d5d48449634e1072", func := "lottery/lotterylaw44.ClaimSums", spec := "claimSums", apart := false }
def ClaimSumsSaid : Prop := claimSumsRow.holds Try.pinned (OpenSpec.ofChange claimSumsSpec)

/-- ITS FALSE NEIGHBOUR: 'it returns false'. Refute it at one input. -/
def claimSumsWrong : ChangeSpec := { name := "claimSums", fn := fun _ => fun
  | [d1, d2] => { results := [.lit (.bool false)], args := [d1, d2] }
  | _ => none }
def ClaimSumsWrongFalsely : Prop := claimSumsRow.holds Try.pinned (OpenSpec.ofChange claimSumsWrong)

/-- 'lotterylaw44.ClaimExpires': WHATEVER THE INPUT: true; the input reads as it did. -/
def claimExpiresSpec : ChangeSpec := { name := "claimExpires", fn := fun _ => fun
  | [d1, d2, d3] => { results := [.lit (.bool true)], args := [d1, d2, d3] }
  | _ => none }
def claimExpiresRow : OpenClaim := { program := "ytpalmlcepppifaa", sum := "8fa55628b143774c8ee48eb86dd36a9deae45d130e1add96d5d48449634e1072", func := "lottery/lotterylaw44.ClaimExpires", spec := "claimExpires", apart := false }
def ClaimExpiresSaid : Prop := claimExpiresRow.holds Try.pinned (OpenSpec.ofChange claimExpiresSpec)

/-- ITS FALSE NEIGHBOUR: 'it returns false'. Refute it at one input. -/
def claimExpiresWrong : ChangeSpec := { name := "claimExpires", fn := fun _ => fun
  | [d1, d2, d3] => { results := [.lit (.bool false)], args := [d1, d2, d3] }
  | _ => none }
def ClaimExpiresWrongFalsely : Prop := claimExpiresRow.holds Try.pinned (OpenSpec.ofChange claimExpiresWrong)

/-- 'lotterylaw44.ClaimPlays': WHATEVER THE INPUT: true; the input reads as it did. -/
def claimPlaysSpec : ChangeSpec := { name := "claimPlays", fn := fun _ => fun
  | [d] => { results := [.lit (.bool true)], args := [d] }
  | _ => none }
def claimPlaysRow : OpenClaim := { program := "ytpalmlcepppifaa", sum := "8fa55628b143774c8ee48eb86dd36a9deae45d130e1add96d5d48449634e1072", func := "lottery/lotterylaw44.ClaimPlays", spec := "claimPlays", apart := false }
def ClaimPlaysSaid : Prop := claimPlaysRow.holds Try.pinned (OpenSpec.ofChange claimPlaysSpec)

/-- ITS FALSE NEIGHBOUR: 'it returns false'. Refute it at one input. -/
def claimPlaysWrong : ChangeSpec := { name := "claimPlays", fn := fun _ => fun
  | [d] => { results := [.lit (.bool false)], args := [d] }
  | _ => none }
def ClaimPlaysWrongFalsely : Prop := claimPlaysRow.holds Try.pinned (OpenSpec.ofChange claimPlaysWrong)

/-- 'lotterylaw44.ClaimOnce': WHATEVER THE INPUT: true; the input reads as it did. -/
def claimOnceSpec : ChangeSpec := { name := "claimOnce", fn := fun _ => fun
  | [d] => { results := [.lit (.bool true)], args := [d] }
  | _ => none }
def claimOnceRow : OpenClaim := { program := "ytpalmlcepppifaa", sum := "8fa55628b143774c8ee48eb86dd36a9deae45d130e1add96d5d48449634e1072", func := "lottery/lotterylaw44.ClaimOnce", spec := "claimOnce", apart := false }
def ClaimOnceSaid : Prop := claimOnceRow.holds Try.pinned (OpenSpec.ofChange claimOnceSpec)

/-- ITS FALSE NEIGHBOUR: 'it returns false'. Refute it at one input. -/
def claimOnceWrong : ChangeSpec := { name := "claimOnce", fn := fun _ => fun
  | [d] => { results := [.lit (.bool false)], args := [d] }
  | _ => none }
def ClaimOnceWrongFalsely : Prop := claimOnceRow.holds Try.pinned (OpenSpec.ofChange claimOnceWrong)

/-- 'lotterylaw44.ClaimNil': WHATEVER THE INPUT: true; the input reads as it did. -/
def claimNilSpec : ChangeSpec := { name := "claimNil", fn := fun _ => fun
  | [d] => { results := [.lit (.bool true)], args := [d] }
  | _ => none }
def claimNilRow : OpenClaim := { program := "ytpalmlcepppifaa", sum := "8fa55628b143774c8ee48eb86dd36a9deae45d130e1add96d5d48449634e1072", func := "lottery/lotterylaw44.ClaimNil", spec := "claimNil", apart := false }
def ClaimNilSaid : Prop := claimNilRow.holds Try.pinned (OpenSpec.ofChange claimNilSpec)

/-- ITS FALSE NEIGHBOUR: 'it returns false'. Refute it at one input. -/
def claimNilWrong : ChangeSpec := { name := "claimNil", fn := fun _ => fun
  | [d] => { results := [.lit (.bool false)], args := [d] }
  | _ => none }
def ClaimNilWrongFalsely : Prop := claimNilRow.holds Try.pinned (OpenSpec.ofChange claimNilWrong)

/- THE SECOND FORM. 'bulk': how many values and letters a reading holds, each counted each time it is reached (what is shared counts as often as it is met; a slice's spare places count too). A statement '..UptoSaid' is the law's where the arguments, and the package variables that the reading takes, are together of bulk at most 1048576: NARROWER than '..Said'. Prove '..Said' where nothing that the law and all that it calls make is longer than what came in: it says more and counts as full. Else prove '..UptoSaid'. A law counts once. -/
mutual
def uptoBulk {H : Type} : DataW H → Nat
  | .lit (.string bytes) => bytes.length + 1
  | .lit _ => 1
  | .nil => 1
  | .ptr d => uptoBulk d + 1
  | .slice elems spare => uptoBulkAll elems + uptoBulkAll spare + 1
  | .agg parts => uptoBulkAll parts + 1
  | .iface _ d => uptoBulk d + 1
  | .map entries => uptoBulkEntries entries + 1
  | .held _ => 1
def uptoBulkAll {H : Type} : List (DataW H) → Nat
  | [] => 0
  | d :: r => uptoBulk d + uptoBulkAll r
def uptoBulkEntries {H : Type} : List (Lit × DataW H) → Nat
  | [] => 0
  | x :: r => uptoBulkEntry x + uptoBulkEntries r
def uptoBulkEntry {H : Type} : Lit × DataW H → Nat
  | (.string bytes, d) => bytes.length + uptoBulk d + 1
  | (_, d) => uptoBulk d + 1
 end
def uptoSmall : (H : Type) → List (DataW H) → Bool := fun _ ds => decide (uptoBulkAll ds ≤ 1048576)
def OpenSpec.upto (s : _root_.Go.ChangeSpec) : _root_.Go.OpenSpec := { _root_.Go.OpenSpec.ofChange s with cond := some uptoSmall }

/-- 'lotterylaw44.ClaimChannel', WHERE WHAT IT READS IS OF BULK AT MOST 1048576: true; the input reads as it did. -/
def claimChannelUptoRow : OpenClaim := { program := "ytpalmlcepppifaa", sum := "8fa55628b143774c8ee48eb86dd36a9deae45d130e1add96d5d48449634e1072", func := "lottery/lotterylaw44.ClaimChannel", spec := "claimChannel", apart := false, narrowed := true }
def ClaimChannelUptoSaid : Prop := claimChannelUptoRow.holds Try.pinned (OpenSpec.upto claimChannelSpec)

/-- 'lotterylaw44.ClaimAlone', WHERE WHAT IT READS IS OF BULK AT MOST 1048576: true; the input reads as it did. -/
def claimAloneUptoRow : OpenClaim := { program := "ytpalmlcepppifaa", sum := "8fa55628b143774c8ee48eb86dd36a9deae45d130e1add96d5d48449634e1072", func := "lottery/lotterylaw44.ClaimAlone", spec := "claimAlone", apart := false, narrowed := true }
def ClaimAloneUptoSaid : Prop := claimAloneUptoRow.holds Try.pinned (OpenSpec.upto claimAloneSpec)

/-- 'lotterylaw49.RetailerTerms', WHERE WHAT IT READS IS OF BULK AT MOST 1048576: true; the input reads as it did. -/
def retailerTermsUptoRow : OpenClaim := { program := "ytpalmlcepppifaa", sum := "8fa55628b143774c8ee48eb86dd36a9deae45d130e1add96d5d48449634e1072", func := "lottery/lotterylaw49.RetailerTerms", spec := "retailerTerms", apart := false, narrowed := true }
def RetailerTermsUptoSaid : Prop := retailerTermsUptoRow.holds Try.pinned (OpenSpec.upto retailerTermsSpec)

/-- 'lotterylaw49.RetailerDoes', WHERE WHAT IT READS IS OF BULK AT MOST 1048576: true; the input reads as it did. -/
def retailerDoesUptoRow : OpenClaim := { program := "ytpalmlcepppifaa", sum := "8fa55628b143774c8ee48eb86dd36a9deae45d130e1add96d5d48449634e1072", func := "lottery/lotterylaw49.RetailerDoes", spec := "retailerDoes", apart := false, narrowed := true }
def RetailerDoesUptoSaid : Prop := retailerDoesUptoRow.holds Try.pinned (OpenSpec.upto retailerDoesSpec)

/-- 'lotterylaw49.RetailerSettles', WHERE WHAT IT READS IS OF BULK AT MOST 1048576: true; the input reads as it did. -/
def retailerSettlesUptoRow : OpenClaim := { program := "ytpalmlcepppifaa", sum := "8fa55628b143774c8ee48eb86dd36a9deae45d130e1add96d5d48449634e1072", func := "lottery/lotterylaw49.RetailerSettles", spec := "retailerSettles", apart := false, narrowed := true }
def RetailerSettlesUptoSaid : Prop := retailerSettlesUptoRow.holds Try.pinned (OpenSpec.upto retailerSettlesSpec)

/-- 'lotterylaw49.RetailerEarns', WHERE WHAT IT READS IS OF BULK AT MOST 1048576: true; the input reads as it did. -/
def retailerEarnsUptoRow : OpenClaim := { program := "ytpalmlcepppifaa", sum := "8fa55628b143774c8ee48eb86dd36a9deae45d130e1add96d5d48449634e1072", func := "lottery/lotterylaw49.RetailerEarns", spec := "retailerEarns", apart := false, narrowed := true }
def RetailerEarnsUptoSaid : Prop := retailerEarnsUptoRow.holds Try.pinned (OpenSpec.upto retailerEarnsSpec)

/-- 'lotterylaw49.RetailerCredit', WHERE WHAT IT READS IS OF BULK AT MOST 1048576: true; the input reads as it did. -/
def retailerCreditUptoRow : OpenClaim := { program := "ytpalmlcepppifaa", sum := "8fa55628b143774c8ee48eb86dd36a9deae45d130e1add96d5d48449634e1072", func := "lottery/lotterylaw49.RetailerCredit", spec := "retailerCredit", apart := false, narrowed := true }
def RetailerCreditUptoSaid : Prop := retailerCreditUptoRow.holds Try.pinned (OpenSpec.upto retailerCreditSpec)

/-- 'lotterylaw49.RetailerErrors', WHERE WHAT IT READS IS OF BULK AT MOST 1048576: true; the input reads as it did. -/
def retailerErrorsUptoRow : OpenClaim := { program := "ytpalmlcepppifaa", sum := "8fa55628b143774c8ee48eb86dd36a9deae45d130e1add96d5d48449634e1072", func := "lottery/lotterylaw49.RetailerErrors", spec := "retailerErrors", apart := false, narrowed := true }
def RetailerErrorsUptoSaid : Prop := retailerErrorsUptoRow.holds Try.pinned (OpenSpec.upto retailerErrorsSpec)

/-- 'lotterylaw49.RetailerOrders', WHERE WHAT IT READS IS OF BULK AT MOST 1048576: true; the input reads as it did. -/
def retailerOrdersUptoRow : OpenClaim := { program := "ytpalmlcepppifaa", sum := "8fa55628b143774c8ee48eb86dd36a9deae45d130e1add96d5d48449634e1072", func := "lottery/lotterylaw49.RetailerOrders", spec := "retailerOrders", apart := false, narrowed := true }
def RetailerOrdersUptoSaid : Prop := retailerOrdersUptoRow.holds Try.pinned (OpenSpec.upto retailerOrdersSpec)

/-- 'lotterylaw49.RetailerNobody', WHERE WHAT IT READS IS OF BULK AT MOST 1048576: true; the input reads as it did. -/
def retailerNobodyUptoRow : OpenClaim := { program := "ytpalmlcepppifaa", sum := "8fa55628b143774c8ee48eb86dd36a9deae45d130e1add96d5d48449634e1072", func := "lottery/lotterylaw49.RetailerNobody", spec := "retailerNobody", apart := false, narrowed := true }
def RetailerNobodyUptoSaid : Prop := retailerNobodyUptoRow.holds Try.pinned (OpenSpec.upto retailerNobodySpec)

/-- 'lotterylaw44.ClaimSums', WHERE WHAT IT READS IS OF BULK AT MOST 1048576: true; the input reads as it did. -/
def claimSumsUptoRow : OpenClaim := { program := "ytpalmlcepppifaa", sum := "8fa55628b143774c8ee48eb86dd36a9deae45d130e1add96d5d48449634e1072", func := "lottery/lotterylaw44.ClaimSums", spec := "claimSums", apart := false, narrowed := true }
def ClaimSumsUptoSaid : Prop := claimSumsUptoRow.holds Try.pinned (OpenSpec.upto claimSumsSpec)

/-- 'lotterylaw44.ClaimExpires', WHERE WHAT IT READS IS OF BULK AT MOST 1048576: true; the input reads as it did. -/
def claimExpiresUptoRow : OpenClaim := { program := "ytpalmlcepppifaa", sum := "8fa55628b143774c8ee48eb86dd36a9deae45d130e1add96d5d48449634e1072", func := "lottery/lotterylaw44.ClaimExpires", spec := "claimExpires", apart := false, narrowed := true }
def ClaimExpiresUptoSaid : Prop := claimExpiresUptoRow.holds Try.pinned (OpenSpec.upto claimExpiresSpec)

/-- 'lotterylaw44.ClaimPlays', WHERE WHAT IT READS IS OF BULK AT MOST 1048576: true; the input reads as it did. -/
def claimPlaysUptoRow : OpenClaim := { program := "ytpalmlcepppifaa", sum := "8fa55628b143774c8ee48eb86dd36a9deae45d130e1add96d5d48449634e1072", func := "lottery/lotterylaw44.ClaimPlays", spec := "claimPlays", apart := false, narrowed := true }
def ClaimPlaysUptoSaid : Prop := claimPlaysUptoRow.holds Try.pinned (OpenSpec.upto claimPlaysSpec)

/-- 'lotterylaw44.ClaimOnce', WHERE WHAT IT READS IS OF BULK AT MOST 1048576: true; the input reads as it did. -/
def claimOnceUptoRow : OpenClaim := { program := "ytpalmlcepppifaa", sum := "8fa55628b143774c8ee48eb86dd36a9deae45d130e1add96d5d48449634e1072", func := "lottery/lotterylaw44.ClaimOnce", spec := "claimOnce", apart := false, narrowed := true }
def ClaimOnceUptoSaid : Prop := claimOnceUptoRow.holds Try.pinned (OpenSpec.upto claimOnceSpec)

/-- 'lotterylaw44.ClaimNil', WHERE WHAT IT READS IS OF BULK AT MOST 1048576: true; the input reads as it did. -/
def claimNilUptoRow : OpenClaim := { program := "ytpalmlcepppifaa", sum := "8fa55628b143774c8ee48eb86dd36a9deae45d130e1add96d5d48449634e1072", func := "lottery/lotterylaw44.ClaimNil", spec := "claimNil", apart := false, narrowed := true }
def ClaimNilUptoSaid : Prop := claimNilUptoRow.holds Try.pinned (OpenSpec.upto claimNilSpec)

end Rows
end Go.Proofs.Ytpalmlcepppifaa
