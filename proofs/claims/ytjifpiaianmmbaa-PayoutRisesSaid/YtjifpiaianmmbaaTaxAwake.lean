/- The examples of the chapter on taxes: awake returns true. -/
import Derived.Test.YtjifpiaianmmbaaTaxTax
namespace Go.Proofs.Ytjifpiaianmmbaa
open Go.RowKit

theorem tax_at {A : Option Addr} {n c : Nat} {F R : Nat → Int} {a x y : Int} {w : World} (hn : n ≤ 9223372036854775807) (h : Cells w A (n * 2) (Two F R)) (hx : Tx.val n F R a = x) (hy : Tx.err n F R a = y) :
    Calls Try.prog 17 #[.slice A n c, .int .i64 a] w fun e w' => e = .returned (.tuple #[.int .i64 x, .int .i64 y]) ∧ Below w.heap.size w w' := by
  subst hx hy; exact tax_any A n c F R a w hn h
theorem check_at {A : Option Addr} {n c : Nat} {F R : Nat → Int} {y : Int} {w : World} (hn : n ≤ 9223372036854775807) (h : Cells w A (n * 2) (Two F R)) (hy : Tx.chk n F R = y) :
    Calls Try.prog 25 #[.slice A n c] w fun e w' => e = .returned (.int .i64 y) ∧ Below w.heap.size w w' := by
  subst hy; exact check_any A n c F R w hn h
def seq2 (x y : Int) (i : Nat) : Int := if i = 0 then x else y

end Go.Proofs.Ytjifpiaianmmbaa
