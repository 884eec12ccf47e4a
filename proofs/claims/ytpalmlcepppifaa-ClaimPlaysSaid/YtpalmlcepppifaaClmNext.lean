/- The claims behind one more prize, and behind a prize's change of state. -/
import Derived.Test.YtpalmlcepppifaaClmPlain
set_option linter.unusedVariables false
namespace Go.Proofs.Ytpalmlcepppifaa
open Go.RowKit Go.Maps Go.ChangeShapes Go.WideElems Go.WideMaps

theorem row_next {A F E S : Nat → Int} {n : Nat} {a f t y : Int} : row ((n + 1) * 4) (Four (upd A n a) (upd F n f) (upd E n t) (upd S n y)) = row (n * 4) (Four A F E S) ++ [.int .i64 a, .int .i64 f, .int .i64 t, .int .i64 y] := by
  obtain ⟨h0, h1, h2, h3⟩ := Four_at (upd A n a) (upd F n f) (upd E n t) (upd S n y) n
  rw [show (n + 1) * 4 = n * 4 + 4 by omega, row_four, h0, h1, h2, h3, upd_same, upd_same, upd_same, upd_same]
  congr 1
  refine row_congr fun j hj => ?_
  unfold Four
  have e : j / 4 ≠ n := by omega
  rw [upd_ne A _ e, upd_ne F _ e, upd_ne E _ e, upd_ne S _ e]
theorem Cl.next {B : Nat} {w w7 : World} {h n : Nat} {N : Nat → ByteArray} {A F E S : Nat → Int} {pv pv' : Value} {b1 b2 : Nat} {D O : DataW Unit} {s : ByteArray} {a f t : Int} {g5 cap5 k5 : Nat}
    (c : Cl B w h n N A F E S pv b1 b2 D O) (hn : n < 8192) (a0 : 1 ≤ a) (a1 : a ≤ 1000000000000)
    (hblk : Blk w7 h 78 #[pv', .map (some b1), .map (some b2)])
    (hown : w7.ownsRow B 80 4 pv' (n + 1) (row (n * 4) (Four A F E S) ++ [.int .i64 a, .int .i64 f, .int .i64 t, .int .i64 0]))
    (hgrp : w7.ownsGroups Try.prog 9 (b1 + 1) 3 .i64 b1 (n + 1) (D.put (.string s.data.toList) (rowDatum .i64 (.slice (some ⟨g5, 0, none⟩) k5 cap5) (zints (idx N s n) ++ [(n : Int)]))))
    (hopn : w7.ownsMap Try.prog 3 (plainElem Try.prog 4) b2 (n + 1) (O.put (.int .i64 n) (.lit (.bool true)))) :
    Cl B w7 h (n + 1) (upd N n s) (upd A n a) (upd F n f) (upd E n t) (upd S n 0) pv' b1 b2 (D.put (.string s.data.toList) (rowDatum .i64 (.slice (some ⟨g5, 0, none⟩) k5 cap5) (zints (idx N s n) ++ [(n : Int)]))) (O.put (.int .i64 n) (.lit (.bool true))) := by
  have hnot : Maps.has O (.int .i64 n) = false := by rw [c.hO n (by omega)]; simp
  refine ⟨hblk, by rw [row_next]; exact hown, hgrp, hopn, fun i hi => ?_, ?_, put_gd (is_map c.grp) c.hD rfl, c.hB, c.hB1, c.hB2, c.ne, hn, fun i hi => ?_⟩
  · by_cases e : i = n
    · subst e
      rw [has_put_same c.opn.isMap (by unfold WideAt.IsKeyLit; trivial), upd_same]; simp
    · rw [has_put_other (by intro e2; injection e2 with _ e2; omega), c.hO i hi, upd_ne _ _ e]
      by_cases e2 : i < n
      · rw [decide_eq_true e2, decide_eq_true (show i < n + 1 by omega)]
      · rw [decide_eq_false e2, decide_eq_false (show ¬ i < n + 1 by omega)]
  · rw [size_put (c.opn.tidy kI), hnot, c.hsz]
    simp only [cnt]
    rw [upd_same, if_pos rfl, cnt_congr (S := upd S n 0) (S' := S) fun i hi => upd_ne _ _ (by omega)]
    simp
  · by_cases e : i = n
    · subst e; rw [upd_same]; exact ⟨a0, a1⟩
    · rw [upd_ne _ _ e]; exact c.st i (by omega)
end Go.Proofs.Ytpalmlcepppifaa
