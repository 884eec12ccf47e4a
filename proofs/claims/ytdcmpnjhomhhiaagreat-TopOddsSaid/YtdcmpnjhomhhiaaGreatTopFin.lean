/- The finite check of TopOdds, in plain numbers. -/
import Derived.Test.YtdcmpnjhomhhiaaGreatTopAsc
set_option linter.unusedVariables false
namespace Go.Proofs.YtdcmpnjhomhhiaaGreat
open Go.RowKit Fr Fa
namespace Tp
/-- The law of a tiny game in plain numbers. -/
def Good (m n b c : Nat) : Prop := ∀ t, t < nT m b → ∀ d, d < NL n m c b → ∀ x, x < 2 → WN t m n x b c * NL n m c b = Oc n m x c b * cnts n m c b d t (NL n m c b)
instance {m n b c : Nat} : Decidable (Good m n b c) := by unfold Good; infer_instance
set_option maxRecDepth 100000
theorem good1 : ∀ j, j < 4 → ∀ c, c < 4 → Good 1 (1 + j + 1) (min c 1) c := by decide +kernel
theorem good2 : ∀ j, j < 4 → ∀ c, c < 4 → Good 2 (2 + j + 1) (min c 1) c := by decide +kernel
theorem good3 : ∀ j, j < 3 → ∀ c, c < 4 → Good 3 (3 + j + 1) (min c 1) c := by decide +kernel
theorem good37 : ∀ c, c < 3 → Good 3 7 (min c 1) c := by decide +kernel
theorem good373 : Good 3 7 1 3 := by decide +kernel
theorem good_all {m n b c x t d : Nat} (hm0 : 1 ≤ m) (hm : m ≤ 3) (hn0 : m + 1 ≤ n) (hn : n ≤ m + 4) (hx : x ≤ 1) (hb : b = 0 ∧ c = 0 ∨ b = 1 ∧ 1 ≤ c ∧ c ≤ 3) (ht : t < nT m b) (hd : d < NL n m c b) : WN t m n x b c * NL n m c b = Oc n m x c b * cnts n m c b d t (NL n m c b) := by
  obtain ⟨j, rfl⟩ : ∃ j, n = m + j + 1 := ⟨n - m - 1, by omega⟩
  have hj : j < 4 := by omega
  obtain rfl : b = min c 1 := by omega
  have hc : c < 4 := by omega
  have h1 : m = 1 ∨ m = 2 ∨ m = 3 := by omega
  rcases h1 with rfl | rfl | rfl
  · exact good1 j hj c hc t ht d hd x (by omega)
  · exact good2 j hj c hc t ht d hd x (by omega)
  · rcases Nat.lt_or_ge j 3 with h | h
    · exact good3 j h c hc t ht d hd x (by omega)
    · obtain rfl : j = 3 := by omega
      rcases Nat.lt_or_ge c 3 with h2 | h2
      · exact good37 c h2 t ht d hd x (by omega)
      · obtain rfl : c = 3 := by omega
        exact good373 t ht d hd x (by omega)
end Tp
end Go.Proofs.YtdcmpnjhomhhiaaGreat
