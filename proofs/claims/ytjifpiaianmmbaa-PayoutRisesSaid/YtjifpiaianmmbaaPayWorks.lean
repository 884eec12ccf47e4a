/- The example of the chapter on payouts, and the comparison of orders. -/
import Derived.Test.YtjifpiaianmmbaaPayBad
set_option linter.unusedVariables false
namespace Go.Proofs.Ytjifpiaianmmbaa
open Go.RowKit

set_option maxHeartbeats 1000000 in
theorem same47_yes {D E : Option Addr} {n c c2 : Nat} {g t l : Int} {G : Nat → Int} {w : World} (hn : n ≤ 9223372036854775807) (hD : Cells w D (n * 1) (Ints G)) (hE : Cells w E (n * 1) (Ints G)) :
    Calls Try.prog 12 #[order g t D n c l, order g t E n c2 l] w fun e w' => e = .returned (.bool true) ∧ Below w.heap.size w w' := by
  unfold order
  have hnn : ((n : Int) != (n : Int)) = false := by simp
  have hgg : (g != g) = false := by simp
  have htt : (t != t) = false := by simp
  have hll : (l != l) = false := by simp
  have hb0 := ((Below.refl w.heap.size w).alloc (Nat.le_refl _) (.cells #[.int .i64 g, .int .i64 t, .slice D n c, .int .i64 l] 27)).alloc (by simp) (.cells #[.int .i64 g, .int .i64 t, .slice E n c2, .int .i64 l] 27)
  have HB0 := Lib.hid hb0
  clear hb0
  go_enter Try.func12, Try.ntmps12
  go_wp2
  go_loopw [5] (fun i wr => ∃ k : Nat, k ≤ n ∧ i = .int .i64 k ∧ Below w.heap.size w wr ∧ wr.cell? ⟨w.heap.size, 2, none⟩ = some (.slice D n c) ∧ wr.cell? ⟨w.heap.size + 1, 2, none⟩ = some (.slice E n c2)) (fun i _ => n - (intOf i).toNat)
  case atStart =>
    refine ⟨0, Nat.zero_le _, rfl, HB0.out, ?_, ?_⟩
    · rw [World.cell?_alloc_past _ _ _ (by simp), World.cell?_alloc_at _ _ _ _ rfl]; rfl
    · rw [World.cell?_alloc_at _ _ _ _ (by simp)]; rfl
  case round =>
    obtain ⟨k, hk, rfl, hbw, r1, r2⟩ := hrel
    by_cases hkn : k < n
    · obtain ⟨b, off, rfl, hlt, h1⟩ := (hD.below hbw).one hkn
      obtain ⟨b', off', rfl, hlt', h2⟩ := (hE.below hbw).one hkn
      have hg : (G k != G k) = false := by simp
      go_wp2
      go_quiet (fail)
      go_wp2
      go_roundw
      case rel => exact ⟨k + 1, by omega, by go_num, below_drewN hbw _, r1, r2⟩
      case measure => simp [intOf]; omega
    · go_wp2
      go_ret
      exact ⟨rfl, hbw⟩

def state : ByteArray := ⟨#[115, 116, 97, 116, 101]⟩
theorem works_chk : Db.chk (seqS state state) (seqI 1 1) (seqI 100 100) 1 = 0 := by decide +kernel
set_option maxHeartbeats 1000000 in
set_option maxRecDepth 100000 in
theorem works47 (w : World) : Calls Try.prog 13 #[] w fun e w' => e = .returned (.bool true) ∧ Below w.heap.size w w' := by
  have h1 : Cells ((w.alloc (.cells #[.int .i64 0, .int .i64 0, .int .i64 500, .int .i64 1000] 42)).alloc (.cells #[.string state, .int .i64 1, .int .i64 100] 40)) (some ⟨w.heap.size, 0, none⟩) (2 * 2) (Two (seq2 0 500) (seq2 0 1000)) := by
    refine (Cells.lit rfl fun j hj => ?_).alloc _
    match j, hj with
    | 0, _ => rfl
    | 1, _ => rfl
    | 2, _ => rfl
    | 3, _ => rfl
  have h2 : Cells ((w.alloc (.cells #[.int .i64 0, .int .i64 0, .int .i64 500, .int .i64 1000] 42)).alloc (.cells #[.string state, .int .i64 1, .int .i64 100] 40)) (some ⟨w.heap.size + 1, 0, none⟩) (1 * 3) (Three (seqS state state) (seqI 1 1) (seqI 100 100)) := by
    refine Cells.lit (by simp) fun j hj => ?_
    match j, hj with
    | 0, _ => rfl
    | 1, _ => rfl
    | 2, _ => rfl
  have hb0 := ((Below.refl w.heap.size w).alloc (Nat.le_refl _) (.cells #[.int .i64 0, .int .i64 0, .int .i64 500, .int .i64 1000] 42)).alloc (by simp) (.cells #[.string state, .int .i64 1, .int .i64 100] 40)
  have H1 := Lib.hid h1
  have H2 := Lib.hid h2
  have HB0 := Lib.hid hb0
  clear h1 h2 hb0
  go_enter Try.func13, Try.ntmps13
  go_wp2_with fail
  refine (pay_good (t := 50) (by omega) (by omega) H1.out H2.out (fun i _ => by unfold seqS; split <;> decide) (by omega) (by omega) (by decide) (by decide) works_chk (by omega) (by omega)).mono ?_
  rintro e w1 ⟨D', c', rfl, hc, hb1, hfr⟩
  obtain ⟨b, off, rfl, hlt, hx⟩ := hc.one (k := 0) (by omega)
  have hg0 : Db.get (seqI 100 100) (1000 - 50) 0 = 100 := by decide
  rw [hg0] at hx
  have hx0 : w1.cell? ⟨b, off, none⟩ = some (.int .i64 100) := by simpa using hx
  clear hg0
  have hl : Db.left (seqI 100 100) (1000 - 50) 1 = 850 := by decide
  rw [hl]
  unfold order
  have HB := Lib.hid (HB0.out.trans (hb1.mono HB0.out.size))
  clear hx hc hb1 hfr H1 H2 HB0
  go_wp2
  go_ret
  exact ⟨rfl, HB.out.alloc HB.out.size _⟩
end Go.Proofs.Ytjifpiaianmmbaa
