/- The walk of the law's own 'few'. -/
import Derived.Test.YthjbkadhgcjnaaaNatWords
set_option linter.unusedVariables false
namespace Go.Proofs.Ythjbkadhgcjnaaa
open Go.RowKit

theorem nfew_yes {D E : Option Addr} {n m c c' : Nat} (hn : n ≤ 70) (hm : m ≤ 70) (w : World) :
    Calls Try.prog 34 #[.agg #[.slice D n c], .agg #[.slice E m c']] w fun e w' => e = .returned (.bool true) ∧ Below w.heap.size w w' := by
  have hb := Lib.hid (bl_alloc' (bl_alloc' (Below.refl w.heap.size w) (.cells #[.slice D n c] 24)) (.cells #[.slice E m c'] 24))
  go_enter Try.func34, Try.ntmps34
  go_wp2
  go_ret
  exact ⟨ret_bool (by simp; omega), hb.out⟩
theorem nfew_no {D E : Option Addr} {n m c c' : Nat} (h : 70 < n ∨ n ≤ 70 ∧ 70 < m) (w : World) :
    Calls Try.prog 34 #[.agg #[.slice D n c], .agg #[.slice E m c']] w fun e w' => e = .returned (.bool false) ∧ Below w.heap.size w w' := by
  have hb := Lib.hid (bl_alloc' (bl_alloc' (Below.refl w.heap.size w) (.cells #[.slice D n c] 24)) (.cells #[.slice E m c'] 24))
  rcases h with h | ⟨h, h2⟩
  · go_enter Try.func34, Try.ntmps34
    go_wp2
    go_ret
    exact ⟨rfl, hb.out⟩
  · go_enter Try.func34, Try.ntmps34
    go_wp2
    go_ret
    exact ⟨ret_bool (by simp; omega), hb.out⟩
end Go.Proofs.Ythjbkadhgcjnaaa
