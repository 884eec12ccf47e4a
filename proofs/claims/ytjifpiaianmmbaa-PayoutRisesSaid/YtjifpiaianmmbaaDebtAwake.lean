/- The examples of the chapter on debts: awake returns true. -/
import Derived.Test.YtjifpiaianmmbaaDebtRef
set_option linter.unusedVariables false
namespace Go.Proofs.Ytjifpiaianmmbaa
open Go.RowKit

def taxOffice : ByteArray := ⟨#[116, 97, 120, 45, 111, 102, 102, 105, 99, 101]⟩
def court : ByteArray := ⟨#[99, 111, 117, 114, 116]⟩
def seqS (x y : ByteArray) (i : Nat) : ByteArray := if i = 0 then x else y
def seqI (x y : Int) (i : Nat) : Int := if i = 0 then x else y
theorem exC (i : Nat) (_ : i < 2) : (seqS taxOffice court i).size ≤ maxLen := by
  unfold seqS; split <;> decide
theorem ex_chk : Db.chk (seqS taxOffice court) (seqI 1 2) (seqI 100 50) 2 = 0 := by decide +kernel

theorem offset_at {D : Option Addr} {n c : Nat} {C : Nat → ByteArray} {R A G : Nat → Int} {a l : Int} {w : World} (hn : n ≤ 9223372036854775807) (h : Cells w D (n * 3) (Three C R A)) (hC : ∀ i, i < n → (C i).size ≤ maxLen) (hy : Db.chk C R A n = 0) (h0 : 0 ≤ a) (h1 : a ≤ 1000000000000) (hl : Db.left A a n = l) (hG : ∀ i, i < n → Db.get A a i = G i) :
    Calls Try.prog 18 #[.slice D n c, .int .i64 a] w fun e w' => ∃ D' c', e = .returned (.tuple #[.slice D' n c', .int .i64 l, .int .i64 0]) ∧ Cells w' D' (n * 1) (Ints G) ∧ Below w.heap.size w w' := by
  subst hl
  refine (offset_ok hn h hC hy h0 h1).mono ?_
  rintro e w' ⟨D', c', he, hc, hb⟩
  refine ⟨D', c', he, fun hm => ?_, hb⟩
  obtain ⟨b, off, e1, hlt, hcell⟩ := hc hm
  exact ⟨b, off, e1, hlt, fun j hj => by rw [hcell j hj]; unfold Ints; rw [hG j (by omega)]⟩

end Go.Proofs.Ytjifpiaianmmbaa
