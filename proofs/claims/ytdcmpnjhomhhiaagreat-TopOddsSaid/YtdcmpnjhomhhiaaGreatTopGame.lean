/- The walks of Lotto, tiny, has. -/
import Derived.Test.YtdcmpnjhomhhiaaGreatTopWon
set_option linter.unusedVariables false
namespace Go.Proofs.YtdcmpnjhomhhiaaGreat
open Go.RowKit Fr Fa
namespace Tp
theorem below_row {B g : Nat} {w0 w : World} (hb : Below B w0 w) (hBg : B ≤ g) (cs : Array Value) : Below B w0 (w.setRow g cs) :=
  hb.trans ⟨rfl, rfl, rfl, by simp [World.setRow], fun k hk => setRow_other w g k cs (by omega)⟩
set_option maxHeartbeats 8000000 in
set_option maxRecDepth 100000 in
theorem lotto_any (w : World) : Calls Tryz.prog 14 #[] w fun e w' => (∃ D, e = .returned (.agg #[.string lotto, .int .i64 1, .int .i64 200, .int .i64 2, .int .i64 6, .int .i64 0, .int .i64 0, .int .i64 0, .int .i64 4, .int .i64 4, .int .i64 32, .int .i64 1230, .int .i64 30, .int .i64 15, .int .i64 90, .int .i64 5000, .int .i64 0, .int .i64 1, .int .i64 0, .int .i64 0, .slice none 0 0, .slice D 1 1])) ∧ Below w.heap.size w w' := by
  have BS0 := Lib.hid ((Fr.Bs.nil w).alloc TG #[.string ⟨#[]⟩, .int .i64 0, .int .i64 0, .int .i64 0, .int .i64 0, .int .i64 0, .int .i64 0, .int .i64 0, .int .i64 0, .int .i64 0, .int .i64 0, .int .i64 0, .int .i64 0, .int .i64 0, .int .i64 0, .int .i64 0, .int .i64 0, .int .i64 0, .int .i64 0, .int .i64 0, .slice none 0 0, .slice none 0 0])
  go_enter Tryz.func14, Tryz.ntmps14
  go_upto_region 1 with (fail)
  obtain ⟨wa, hwa⟩ : ∃ wa, wa = (w.alloc (.cells #[.string ⟨#[]⟩, .int .i64 0, .int .i64 0, .int .i64 0, .int .i64 0, .int .i64 0, .int .i64 0, .int .i64 0, .int .i64 0, .int .i64 0, .int .i64 0, .int .i64 0, .int .i64 0, .int .i64 0, .int .i64 0, .int .i64 0, .int .i64 0, .int .i64 0, .int .i64 0, .int .i64 0, .slice none 0 0, .slice none 0 0] TG)) := ⟨_, rfl⟩
  change Code.wp _ _ _ _ (w.alloc (.cells #[.string ⟨#[]⟩, .int .i64 0, .int .i64 0, .int .i64 0, .int .i64 0, .int .i64 0, .int .i64 0, .int .i64 0, .int .i64 0, .int .i64 0, .int .i64 0, .int .i64 0, .int .i64 0, .int .i64 0, .int .i64 0, .int .i64 0, .int .i64 0, .int .i64 0, .int .i64 0, .int .i64 0, .slice none 0 0, .slice none 0 0] TG))
  rw [← hwa] at BS0 ⊢
  have HB := Lib.hid BS0.out.below
  obtain ⟨_, lz, kz⟩ := BS0.out.get (.head _)
  obtain ⟨zb, hzb⟩ : ∃ g, g = w.heap.size := ⟨_, rfl⟩
  rw [← hzb] at kz lz
  rw [show (Value.pointer (some ⟨w.heap.size, 0, none⟩)) = .pointer (some ⟨zb, 0, none⟩) by rw [hzb]]
  have Sz := Lib.hid (show w.heap.size ≤ zb by omega)
  have Kz := Lib.hid kz
  clear kz lz
  clear hwa BS0 hzb
  have HG := Lib.hid (setRow_heap (wa.alloc (.cells #[.int .i64 2, .int .i64 0, .int .i64 0, .int .i64 0, .int .i64 3, .int .i64 1] TT)) zb _ #[.string lotto, .int .i64 1, .int .i64 200, .int .i64 2, .int .i64 6, .int .i64 0, .int .i64 0, .int .i64 0, .int .i64 4, .int .i64 4, .int .i64 32, .int .i64 1230, .int .i64 30, .int .i64 15, .int .i64 90, .int .i64 5000, .int .i64 0, .int .i64 1, .int .i64 0, .int .i64 0, .slice none 0 0, .slice (some ⟨wa.heap.size, 0, none⟩) 1 1] TG (0, 0) (Kz.out.alloc _))
  have HB2 := Lib.hid (below_row (HB.out.alloc HB.out.size (.cells #[.int .i64 2, .int .i64 0, .int .i64 0, .int .i64 0, .int .i64 3, .int .i64 1] TT)) Sz.out #[.string lotto, .int .i64 1, .int .i64 200, .int .i64 2, .int .i64 6, .int .i64 0, .int .i64 0, .int .i64 0, .int .i64 4, .int .i64 4, .int .i64 32, .int .i64 1230, .int .i64 30, .int .i64 15, .int .i64 90, .int .i64 5000, .int .i64 0, .int .i64 1, .int .i64 0, .int .i64 0, .slice none 0 0, .slice (some ⟨wa.heap.size, 0, none⟩) 1 1])
  go_wp2_with (refine wpList_store_row rfl TG _ _ rfl zb #[.string lotto, .int .i64 1, .int .i64 200, .int .i64 2, .int .i64 6, .int .i64 0, .int .i64 0, .int .i64 0, .int .i64 4, .int .i64 4, .int .i64 32, .int .i64 1230, .int .i64 30, .int .i64 15, .int .i64 90, .int .i64 5000, .int .i64 0, .int .i64 1, .int .i64 0, .int .i64 0, .slice none 0 0, .slice (some ⟨wa.heap.size, 0, none⟩) 1 1] rfl rfl TG #[.string ⟨#[]⟩, .int .i64 0, .int .i64 0, .int .i64 0, .int .i64 0, .int .i64 0, .int .i64 0, .int .i64 0, .int .i64 0, .int .i64 0, .int .i64 0, .int .i64 0, .int .i64 0, .int .i64 0, .int .i64 0, .int .i64 0, .int .i64 0, .int .i64 0, .int .i64 0, .int .i64 0, .slice none 0 0, .slice none 0 0] (Kz.out.alloc _) (by kernel_rfl) rfl (by kernel_rfl) ?_)
  refine bodyPost_ret (v := .agg #[.string lotto, .int .i64 1, .int .i64 200, .int .i64 2, .int .i64 6, .int .i64 0, .int .i64 0, .int .i64 0, .int .i64 4, .int .i64 4, .int .i64 32, .int .i64 1230, .int .i64 30, .int .i64 15, .int .i64 90, .int .i64 5000, .int .i64 0, .int .i64 1, .int .i64 0, .int .i64 0, .slice none 0 0, .slice (some ⟨wa.heap.size, 0, none⟩) 1 1]) (results_cell_row rfl _ _ zb TG #[.string lotto, .int .i64 1, .int .i64 200, .int .i64 2, .int .i64 6, .int .i64 0, .int .i64 0, .int .i64 0, .int .i64 4, .int .i64 4, .int .i64 32, .int .i64 1230, .int .i64 30, .int .i64 15, .int .i64 90, .int .i64 5000, .int .i64 0, .int .i64 1, .int .i64 0, .int .i64 0, .slice none 0 0, .slice (some ⟨wa.heap.size, 0, none⟩) 1 1] (0, 0) _ rfl HG.out Tryz.underlying27 rfl (by kernel_rfl)) rfl ?_
  exact ⟨⟨_, rfl⟩, HB2.out⟩
theorem infoT : (Tryz.prog.info? 54).map (fun i => (i.zero, i.size, i.bytes)) = some (some (.agg #[.int .i64 0, .int .i64 0, .int .i64 0, .int .i64 0, .int .i64 0, .int .i64 0]), 6, 48) := by kernel_rfl
theorem row_six (m : Nat) (G : Nat → Value) : row (m + 6) G = row m G ++ [G m, G (m + 1), G (m + 2), G (m + 3), G (m + 4), G (m + 5)] := by
  rw [row_three (m + 3), row_three m, List.append_assoc]; rfl
/-- The tiers of a tiny game. -/
def tP (m b i : Nat) : Nat := m - i / (b + 1)
def tQ (b i : Nat) : Nat := b - i % (b + 1)
def nT (m b : Nat) : Nat := (m + 1) * (b + 1) - 1
theorem tP_at {m b i j : Nat} (h : j ≤ b) : tP m b (i * (b + 1) + j) = m - i ∧ tQ b (i * (b + 1) + j) = b - j := by
  unfold tP tQ
  rw [Nat.mul_comm, Nat.mul_add_div (by omega), Nat.mul_add_mod, Nat.div_eq_of_lt (by omega), Nat.mod_eq_of_lt (by omega), Nat.add_zero]
  exact ⟨rfl, rfl⟩
theorem six_row {P Q : Nat → Nat} (k : Nat) : row ((k + 1) * 6) (Six P Q) = row (k * 6) (Six P Q) ++ [.int .i64 (P k : Int), .int .i64 (Q k : Int), .int .i64 0, .int .i64 0, .int .i64 1, .int .i64 10] := by
  rw [Nat.succ_mul, row_six]
  have e := fun i hi => Six_at P Q k i hi
  rw [show Six P Q (k * 6) = _ from e 0 (by omega), e 1 (by omega), e 2 (by omega), e 3 (by omega), e 4 (by omega), e 5 (by omega)]
  rfl
theorem gs_tiny {m n b c x k : Nat} (hm0 : 1 ≤ m) (hm : m ≤ 3) (hmx : m + x ≤ n) (hn : n ≤ 7) (hx : x ≤ 1) (hb : b = 0 ∧ c = 0 ∨ b = 1 ∧ 1 ≤ c ∧ c ≤ 3) (hk : nT m b ≤ k) : Gs m n b c x (nT m b) k (tP m b) (tQ b) := by
  unfold nT at *
  refine ⟨hm0, hm, hmx, hn, hx, hb, ?_, ?_, hk, ?_, ?_⟩
  all_goals
    (try unfold tP tQ)
    rcases hb with ⟨rfl, rfl⟩ | ⟨rfl, _, _⟩
    all_goals
      simp only [Nat.zero_add, Nat.mul_one, Nat.reduceAdd, Nat.mod_one, Nat.div_one]
      first | omega | (intro i hi; omega) | (intro j i h1 h2; omega)

end Tp
end Go.Proofs.YtdcmpnjhomhhiaaGreat
