/- The walk of the law FracLowest. -/
import Derived.Test.YteclghokkdkolaaFrAwake
import Derived.Test.YteclghokkdkolaaRows
set_option linter.unusedVariables false
namespace Go.Proofs.Yteclghokkdkolaa
open Go.RowKit
namespace Fr
theorem low_red {n d k : Nat} (hd : 0 < d) (hk : 0 < k) : n * k / Nat.gcd (n * k) (d * k) = n / Nat.gcd n d ∧ d * k / Nat.gcd (n * k) (d * k) = d / Nat.gcd n d := by
  rw [Nat.gcd_mul_right]
  exact ⟨Nat.mul_div_mul_right _ _ hk, Nat.mul_div_mul_right _ _ hk⟩
theorem fok_red {n d : Nat} (hd : 0 < d) : fok (n / Nat.gcd n d) (d / Nat.gcd n d) = true := by
  have hg := Nat.gcd_pos_of_pos_right n hd
  unfold fok
  rw [Nat.gcd_div (Nat.gcd_dvd_left n d) (Nat.gcd_dvd_right n d), Nat.div_self hg]
  have : 0 < d / Nat.gcd n d := Nat.div_pos (Nat.le_of_dvd hd (Nat.gcd_dvd_right n d)) hg
  simp [this]
theorem red_zero {n d : Nat} (hd : 0 < d) : n / Nat.gcd n d = 0 ↔ n = 0 := by
  have hg := Nat.gcd_pos_of_pos_right n hd
  constructor
  · intro h
    rcases Nat.eq_zero_or_pos n with e | e
    · exact e
    · have := Nat.div_pos (Nat.le_of_dvd e (Nat.gcd_dvd_left n d)) hg
      omega
  · intro h; rw [h]; exact Nat.zero_div _
set_option maxHeartbeats 8000000 in
set_option maxRecDepth 100000 in
theorem lowest_out (W : World) {x y z : Int} (h : (x < 0) ∨ (0 ≤ x ∧ 2147483647 < x) ∨ (0 ≤ x ∧ x ≤ 2147483647 ∧ y < 1) ∨ (0 ≤ x ∧ x ≤ 2147483647 ∧ 1 ≤ y ∧ 2147483647 < y) ∨ (0 ≤ x ∧ x ≤ 2147483647 ∧ 1 ≤ y ∧ y ≤ 2147483647 ∧ z < 1) ∨ (0 ≤ x ∧ x ≤ 2147483647 ∧ 1 ≤ y ∧ y ≤ 2147483647 ∧ 1 ≤ z ∧ 2147483647 < z)) :
    Calls Try.prog 11 #[.int .i64 x, .int .i64 y, .int .i64 z] W fun e w' => e = .returned (.bool true) ∧ Below W.heap.size W w' := by
  rcases h with h | ⟨h, h1⟩ | ⟨h, h1, h2⟩ | ⟨h, h1, h2, h3⟩ | ⟨h, h1, h2, h3, h4⟩ | ⟨h, h1, h2, h3, h4, h5⟩
  all_goals
    go_enter Try.func11, Try.ntmps11
    go_wp2_with fail
    refine (awake_any _).mono ?_
    rintro e w1 ⟨rfl, hb⟩
    have HB := Lib.hid hb
    clear hb
    go_wp2
    go_ret
    exact ⟨rfl, HB.out⟩
set_option maxHeartbeats 8000000 in
set_option maxRecDepth 100000 in
theorem lowest_in (W : World) {n d k : Nat} (hn : n ≤ 2147483647) (hd0 : 1 ≤ d) (hd : d ≤ 2147483647) (hk0 : 1 ≤ k) (hk : k ≤ 2147483647) :
    Calls Try.prog 11 #[.int .i64 (n : Int), .int .i64 (d : Int), .int .i64 (k : Int)] W fun e w' => e = .returned (.bool true) ∧ Below W.heap.size W w' := by
  obtain ⟨M, hM⟩ : ∃ M, M = n * k := ⟨_, rfl⟩
  obtain ⟨E, hE⟩ : ∃ E, E = d * k := ⟨_, rfl⟩
  have hM1 : M ≤ 2147483647 * 2147483647 := by rw [hM]; exact Nat.mul_le_mul hn hk
  have hE1 : E ≤ 2147483647 * 2147483647 := by rw [hE]; exact Nat.mul_le_mul hd hk
  have hE0 : 0 < E := by rw [hE]; exact Nat.mul_pos hd0 hk0
  have w1 : IntKind.i64.wrap ((n : Int) * (k : Int)) = (M : Int) := by rw [show ((n : Int) * (k : Int)) = (M : Int) by rw [hM]; rfl]; exact IntWalk.i64_in _ (by omega)
  have w2 : IntKind.i64.wrap ((d : Int) * (k : Int)) = (E : Int) := by rw [show ((d : Int) * (k : Int)) = (E : Int) by rw [hE]; rfl]; exact IntWalk.i64_in _ (by omega)
  obtain ⟨a, ha⟩ : ∃ a, a = n / Nat.gcd n d := ⟨_, rfl⟩
  obtain ⟨b, hb⟩ : ∃ b, b = d / Nat.gcd n d := ⟨_, rfl⟩
  have HA := Lib.hid ha
  have HBB := Lib.hid hb
  have HA2 : Hid (a = M / Nat.gcd M E) := by rw [ha, hM, hE]; exact Lib.hid (low_red (by omega) (by omega)).1.symm
  have HB2 : Hid (b = E / Nat.gcd M E) := by rw [hb, hM, hE]; exact Lib.hid (low_red (by omega) (by omega)).2.symm
  have HF : Hid (fok a b = true) := by rw [ha, hb]; exact Lib.hid (fok_red (by omega))
  have HZ : Hid (a = 0 ↔ n = 0) := by rw [ha]; exact Lib.hid (red_zero (by omega))
  have ha64 : L32 a ≤ 64 := Nat.le_trans (fit32_le (N := a) (n := 2) (Nat.lt_of_le_of_lt (show a ≤ n by rw [ha]; exact Nat.div_le_self _ _) (Nat.lt_of_le_of_lt hn (by decide)))) (by omega)
  have hb64 : L32 b ≤ 64 := Nat.le_trans (fit32_le (N := b) (n := 2) (Nat.lt_of_le_of_lt (show b ≤ d by rw [hb]; exact Nat.div_le_self _ _) (Nat.lt_of_le_of_lt hd (by decide)))) (by omega)
  obtain ⟨la, hla⟩ : ∃ l, l = L32 a := ⟨_, rfl⟩
  obtain ⟨lb, hlb⟩ : ∃ l, l = L32 b := ⟨_, rfl⟩
  have HLA := Lib.hid hla
  have HLB := Lib.hid hlb
  have HLZ : Hid (la = 0 ↔ a = 0) := by rw [hla]; exact Lib.hid L32_zero
  rw [← hla] at ha64
  rw [← hlb] at hb64
  have HM1 := Lib.hid (show M ≤ 9223372036854775807 by omega)
  have HE1 := Lib.hid (show E ≤ 9223372036854775807 by omega)
  have HE0 := Lib.hid hE0
  have e1 : ((n : Int) < 0) = False := eq_false (by omega)
  have e2 : ((2147483647 : Int) < (n : Int)) = False := eq_false (by omega)
  have e3 : ((d : Int) < 1) = False := eq_false (by omega)
  have e4 : ((2147483647 : Int) < (d : Int)) = False := eq_false (by omega)
  have e5 : ((k : Int) < 1) = False := eq_false (by omega)
  have e6 : ((2147483647 : Int) < (k : Int)) = False := eq_false (by omega)
  have HN := Lib.hid (show n ≤ 9223372036854775807 by omega)
  have HD := Lib.hid (show d ≤ 9223372036854775807 by omega)
  have HD0 := Lib.hid (show 0 < d by omega)
  clear hM hE hM1 hE1 hE0 ha hb hla hlb
  go_enter Try.func11, Try.ntmps11
  go_wp2_with fail
  refine (of_ok _ (x := n) (y := d) HN.out HD.out HD0.out).mono ?_
  rintro e u1 ⟨⟨Da, ca, Ea, ca', rfl, _, _, hca, hcb, _, _⟩, hb1⟩
  rw [← HA.out, ← HLA.out] at hca
  rw [← HBB.out, ← HLB.out] at hcb
  rw [← HA.out, ← HBB.out, ← HLA.out, ← HLB.out]
  have BS1 := Lib.hid (((Bs.nil W).on hb1).alloc TF #[.slice Da la ca, .slice Ea lb ca'])
  have CA := Lib.hid (hca.alloc (.cells #[.slice Da la ca, .slice Ea lb ca'] TF))
  have CB := Lib.hid (hcb.alloc (.cells #[.slice Da la ca, .slice Ea lb ca'] TF))
  clear hca hcb hb1
  unfold fv
  go_wp2_with fail
  refine (of_ok _ (x := M) (y := E) HM1.out HE1.out HE0.out).mono ?_
  rintro e u2 ⟨⟨Dc, cc, Ec, cc', rfl, _, _, hca, hcb, _, _⟩, hb1⟩
  rw [← HA2.out, ← HLA.out] at hca
  rw [← HB2.out, ← HLB.out] at hcb
  rw [← HA2.out, ← HB2.out, ← HLA.out, ← HLB.out]
  have BS2 := Lib.hid ((BS1.out.on hb1).alloc TF #[.slice Dc la cc, .slice Ec lb cc'])
  have CC := Lib.hid (hca.alloc (.cells #[.slice Dc la cc, .slice Ec lb cc'] TF))
  have CD := Lib.hid (hcb.alloc (.cells #[.slice Dc la cc, .slice Ec lb cc'] TF))
  replace CA := Lib.hid ((CA.out.below hb1).alloc (.cells #[.slice Dc la cc, .slice Ec lb cc'] TF))
  replace CB := Lib.hid ((CB.out.below hb1).alloc (.cells #[.slice Dc la cc, .slice Ec lb cc'] TF))
  have q := (BS1.out.on hb1).get (.head _)
  have q0 : u2.cell? ⟨u1.heap.size, 0, none⟩ = some (.slice Da la ca) := q.2.2.cell 0
  have q1 : u2.cell? ⟨u1.heap.size, 1, none⟩ = some (.slice Ea lb ca') := q.2.2.cell 1
  have ql := q.2.1
  clear hca hcb hb1 BS1 q
  unfold fv
  go_wp2_with fail
  refine (same_any (x0 := a) (x1 := b) (x2 := a) (x3 := b) (by omega) (by omega) (by omega) (by omega) HLA.out HLB.out HLA.out HLB.out CA.out CB.out CC.out CD.out).mono ?_
  rintro e u3 ⟨rfl, hb⟩
  rw [show (decide (a = a) && decide (b = b)) = true by simp]
  have BS3 := Lib.hid (BS2.out.on hb)
  replace CA := Lib.hid (CA.out.below hb)
  replace CB := Lib.hid (CB.out.below hb)
  clear q0 q1 ql hb BS2 CC CD
  have q := BS3.out.get (.tail _ (.head _))
  have q0 : u3.cell? ⟨u1.heap.size, 0, none⟩ = some (.slice Da la ca) := q.2.2.cell 0
  have q1 : u3.cell? ⟨u1.heap.size, 1, none⟩ = some (.slice Ea lb ca') := q.2.2.cell 1
  have ql := q.2.1
  clear q
  go_wp2_with fail
  refine (valid_any (x := a) (y := b) ha64 hb64 HLA.out HLB.out CA.out CB.out).mono ?_
  rintro e u4 ⟨rfl, hb⟩
  rw [HF.out]
  have BS4 := Lib.hid (BS3.out.on hb)
  clear q0 q1 ql hb BS3 CA CB
  have q := BS4.out.get (.tail _ (.head _))
  have q0 : u4.cell? ⟨u1.heap.size, 0, none⟩ = some (.slice Da la ca) := q.2.2.cell 0
  have ql := q.2.1
  clear q
  by_cases hz : n = 0
  · have z1 : ((la : Int) == 0) = true := by have := HLZ.out.2 (HZ.out.2 hz); simp; omega
    have z2 : ((n : Int) == 0) = true := by simp; omega
    clear hz
    go_wp2_with fail
    refine (awake_any _).mono ?_
    rintro e u5 ⟨rfl, hb⟩
    have HB := Lib.hid (BS4.out.on hb).below
    clear hb
    go_wp2
    go_ret
    exact ⟨rfl, HB.out⟩
  · have z1 : ((la : Int) == 0) = false := by have : la ≠ 0 := fun e => hz (HZ.out.1 (HLZ.out.1 e)); simp; omega
    have z2 : ((n : Int) == 0) = false := by simp; omega
    clear hz
    go_wp2_with fail
    refine (awake_any _).mono ?_
    rintro e u5 ⟨rfl, hb⟩
    have HB := Lib.hid (BS4.out.on hb).below
    clear hb
    go_wp2
    go_ret
    exact ⟨rfl, HB.out⟩
end Fr
theorem fracLowest_walk (W : World) (x : Int) (hx : (Lit.int .i64 x).wf = true) (y : Int) (hy : (Lit.int .i64 y).wf = true) (z : Int) (hz : (Lit.int .i64 z).wf = true) :
    Calls Try.prog 11 #[.int .i64 x, .int .i64 y, .int .i64 z] W fun e w' => e = .returned (.bool true) ∧ Below W.heap.size W w' := by
  by_cases h : 0 ≤ x ∧ x ≤ 2147483647 ∧ 1 ≤ y ∧ y ≤ 2147483647 ∧ 1 ≤ z ∧ z ≤ 2147483647
  · obtain ⟨n, rfl⟩ : ∃ n : Nat, x = (n : Int) := ⟨x.toNat, by omega⟩
    obtain ⟨d, rfl⟩ : ∃ n : Nat, y = (n : Int) := ⟨y.toNat, by omega⟩
    obtain ⟨k, rfl⟩ : ∃ n : Nat, z = (n : Int) := ⟨z.toNat, by omega⟩
    exact Fr.lowest_in W (by omega) (by omega) (by omega) (by omega) (by omega)
  · exact Fr.lowest_out W (by omega)
end Go.Proofs.Yteclghokkdkolaa
