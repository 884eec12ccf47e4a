/- The law FracOf. -/
import Derived.Test.YteclghokkdkolaaFrLawMakes
set_option linter.unusedVariables false
namespace Go.Proofs.Yteclghokkdkolaa
open Go.RowKit
namespace Fr
theorem of_tell (W : World) {x y : Int} (hx : x ≤ 9223372036854775807) (hy : y ≤ 9223372036854775807) :
    ∃ (a b : Nat) (v : Int), Tell W 17 #[.int .i64 x, .int .i64 y] a b v ∧ Tell W 18 #[.int .i64 x, .int .i64 y] a b v ∧ (v ≠ 0 ∨ v = 0 ∧ L32 a ≤ 64 ∧ L32 b ≤ 64 ∧ fok a b = true) := by
  by_cases hn : x < 0 ∨ 0 ≤ x ∧ y < 0
  · exact ⟨0, 0, 2, fun w' hw => (of_neg w' hn).mono fun e w'' ⟨h1, h2⟩ => ⟨Gv.err h1, h2⟩, fun w' hw => (rof_neg w' hn).mono fun e w'' ⟨h1, h2⟩ => ⟨Gv.err h1, h2⟩, .inl (by decide)⟩
  · obtain ⟨n, rfl⟩ := Int.eq_ofNat_of_zero_le (show 0 ≤ x by omega)
    obtain ⟨m, rfl⟩ := Int.eq_ofNat_of_zero_le (show 0 ≤ y by omega)
    have hn2 : n ≤ 9223372036854775807 := by omega
    have hm2 : m ≤ 9223372036854775807 := by omega
    by_cases hm : m = 0
    · subst hm
      exact ⟨0, 0, 10, fun w' hw => (of_zero w' hn2).mono fun e w'' ⟨h1, h2⟩ => ⟨Gv.err h1, h2⟩, fun w' hw => (rof_zero w' hn2).mono fun e w'' ⟨h1, h2⟩ => ⟨Gv.err h1, h2⟩, .inl (by decide)⟩
    · have hl : ∀ k, k ≤ 9223372036854775807 → L32 k ≤ 64 := fun k hk => Nat.le_trans (fit32_le (N := k) (n := 2) (Nat.lt_of_le_of_lt hk (by decide))) (by omega)
      have h1 := len_div (g := Nat.gcd n m) (hl n hn2)
      have h2 := len_div (g := Nat.gcd n m) (hl m hm2)
      exact ⟨_, _, 0, fun w' hw => (of_ok w' hn2 hm2 (by omega)).mono fun e w'' ⟨k1, k2⟩ => ⟨Gv.res k1 h1 h2, k2⟩, fun w' hw => (rof_ok w' hn2 hm2 (by omega)).mono fun e w'' ⟨k1, k2⟩ => ⟨Gv.res k1 h1 h2, k2⟩, .inr ⟨rfl, h1, h2, fok_low (by omega)⟩⟩
set_option maxHeartbeats 4000000 in
set_option maxRecDepth 100000 in
theorem of_good {W : World} {x y : Int} {a b : Nat} (hk : Tell W 17 #[.int .i64 x, .int .i64 y] a b 0) (hr : Tell W 18 #[.int .i64 x, .int .i64 y] a b 0) (ha : L32 a ≤ 64) (hb : L32 b ≤ 64) (hf : fok a b = true) :
    Calls Try.prog 4 #[.int .i64 x, .int .i64 y] W fun e w' => e = .returned (.bool true) ∧ Below W.heap.size W w' := by
  have HF := Lib.hid hf
  have HA : Hid (∀ l, l = L32 a → l ≤ 64) := Lib.hid (fun l h => by rw [h]; exact ha)
  have HB : Hid (∀ l, l = L32 b → l ≤ 64) := Lib.hid (fun l h => by rw [h]; exact hb)
  unfold Tell at hk hr
  have HK := Lib.hid hk
  have HR := Lib.hid hr
  clear hk hr ha hb hf
  go_enter Try.func4, Try.ntmps4
  go_wp2_with fail
  refine (HK.out _ (Below.refl _ _)).mono ?_
  rintro e w1 ⟨⟨D1, l1, c1, E1, m1, k1, rfl, a1, b1, hl1, hm1, x1, y1⟩, hb⟩
  have BQ := Lib.hid ((Bs.nil W).on hb)
  have BS1 := Lib.hid (BQ.out.alloc TF #[.slice D1 l1 c1, .slice E1 m1 k1])
  have X1 := Lib.hid (x1.alloc (.cells #[.slice D1 l1 c1, .slice E1 m1 k1] TF))
  have Y1 := Lib.hid (y1.alloc (.cells #[.slice D1 l1 c1, .slice E1 m1 k1] TF))
  have HL1 := Lib.hid hl1
  have HM1 := Lib.hid hm1
  clear hb x1 y1 hl1 hm1 BQ
  go_wp2_with fail
  refine (HR.out _ BS1.out.below).mono ?_
  rintro e w2 ⟨⟨D2, l2, c2, E2, m2, k2, rfl, a2, b2, hl2, hm2, x2, y2⟩, hb⟩
  have BS2 := Lib.hid (BS1.out.on hb)
  have BS3 := Lib.hid (BS2.out.alloc TF #[.slice D2 l2 c2, .slice E2 m2 k2])
  have X2 := Lib.hid (x2.alloc (.cells #[.slice D2 l2 c2, .slice E2 m2 k2] TF))
  have Y2 := Lib.hid (y2.alloc (.cells #[.slice D2 l2 c2, .slice E2 m2 k2] TF))
  replace X1 := Lib.hid ((X1.out.below hb).alloc (.cells #[.slice D2 l2 c2, .slice E2 m2 k2] TF))
  replace Y1 := Lib.hid ((Y1.out.below hb).alloc (.cells #[.slice D2 l2 c2, .slice E2 m2 k2] TF))
  have HL2 := Lib.hid hl2
  have HM2 := Lib.hid hm2
  clear hb BS1 x2 y2 hl2 hm2
  obtain ⟨_, t1, k1'⟩ := BS2.out.get (.head _)
  have q0 : w2.cell? ⟨w1.heap.size, 0, none⟩ = some (.slice D1 l1 c1) := k1'.cell 0
  have q1 : w2.cell? ⟨w1.heap.size, 1, none⟩ = some (.slice E1 m1 k1) := k1'.cell 1
  clear k1'
  go_wp2_with fail
  refine (same_eq a1 b1 a2 b2 HL1.out HM1.out HL2.out HM2.out X1.out Y1.out X2.out Y2.out).mono ?_
  rintro e w3 ⟨rfl, hb⟩
  have BS4 := Lib.hid (BS3.out.on hb)
  replace X1 := Lib.hid (X1.out.below hb)
  replace Y1 := Lib.hid (Y1.out.below hb)
  clear hb q0 q1 t1 BS2 BS3
  obtain ⟨_, t1, k1'⟩ := BS4.out.get (.tail _ (.head _))
  have q0 : w3.cell? ⟨w1.heap.size, 0, none⟩ = some (.slice D1 l1 c1) := k1'.cell 0
  have q1 : w3.cell? ⟨w1.heap.size, 1, none⟩ = some (.slice E1 m1 k1) := k1'.cell 1
  clear k1'
  have KV := valid_any (c := c1) (c' := k1) (HA.out _ HL1.out) (HB.out _ HM1.out) HL1.out HM1.out X1.out Y1.out
  rw [HF.out] at KV
  unfold fv at KV
  have HV := Lib.hid KV
  clear KV
  go_wp2_with fail
  refine HV.out.mono ?_
  rintro e w5 ⟨rfl, hb⟩
  have BS5 := Lib.hid (BS4.out.on hb)
  clear hb q0 q1 t1 BS4
  go_wp2_with fail
  refine (awake_any _).mono ?_
  rintro e w4 ⟨rfl, hb⟩
  have HB := Lib.hid (BS5.out.on hb).below
  clear hb
  go_wp2
  go_ret
  exact ⟨rfl, HB.out⟩
set_option maxHeartbeats 4000000 in
set_option maxRecDepth 100000 in
theorem of_none {W : World} {x y v : Int} {a b : Nat} (hk : Tell W 17 #[.int .i64 x, .int .i64 y] a b v) (hr : Tell W 18 #[.int .i64 x, .int .i64 y] a b v) (hv : v ≠ 0) :
    Calls Try.prog 4 #[.int .i64 x, .int .i64 y] W fun e w' => e = .returned (.bool true) ∧ Below W.heap.size W w' := by
  have hvv : (v == v) = true := by simp
  have hv0 : (v != 0) = true := by simpa using hv
  unfold Tell at hk hr
  have HK := Lib.hid hk
  have HR := Lib.hid hr
  clear hk hr hv
  go_enter Try.func4, Try.ntmps4
  go_wp2_with fail
  refine (HK.out _ (Below.refl _ _)).mono ?_
  rintro e w1 ⟨⟨D1, l1, c1, E1, m1, k1, rfl, a1, b1, hl1, hm1, x1, y1⟩, hb⟩
  have BQ := Lib.hid ((Bs.nil W).on hb)
  have BS1 := Lib.hid (BQ.out.alloc TF #[.slice D1 l1 c1, .slice E1 m1 k1])
  have X1 := Lib.hid (x1.alloc (.cells #[.slice D1 l1 c1, .slice E1 m1 k1] TF))
  have Y1 := Lib.hid (y1.alloc (.cells #[.slice D1 l1 c1, .slice E1 m1 k1] TF))
  have HL1 := Lib.hid hl1
  have HM1 := Lib.hid hm1
  clear hb x1 y1 hl1 hm1 BQ
  go_wp2_with fail
  refine (HR.out _ BS1.out.below).mono ?_
  rintro e w2 ⟨⟨D2, l2, c2, E2, m2, k2, rfl, a2, b2, hl2, hm2, x2, y2⟩, hb⟩
  have BS2 := Lib.hid (BS1.out.on hb)
  have BS3 := Lib.hid (BS2.out.alloc TF #[.slice D2 l2 c2, .slice E2 m2 k2])
  have X2 := Lib.hid (x2.alloc (.cells #[.slice D2 l2 c2, .slice E2 m2 k2] TF))
  have Y2 := Lib.hid (y2.alloc (.cells #[.slice D2 l2 c2, .slice E2 m2 k2] TF))
  replace X1 := Lib.hid ((X1.out.below hb).alloc (.cells #[.slice D2 l2 c2, .slice E2 m2 k2] TF))
  replace Y1 := Lib.hid ((Y1.out.below hb).alloc (.cells #[.slice D2 l2 c2, .slice E2 m2 k2] TF))
  have HL2 := Lib.hid hl2
  have HM2 := Lib.hid hm2
  clear hb BS1 x2 y2 hl2 hm2
  obtain ⟨_, t1, k1'⟩ := BS2.out.get (.head _)
  have q0 : w2.cell? ⟨w1.heap.size, 0, none⟩ = some (.slice D1 l1 c1) := k1'.cell 0
  have q1 : w2.cell? ⟨w1.heap.size, 1, none⟩ = some (.slice E1 m1 k1) := k1'.cell 1
  clear k1'
  go_wp2_with fail
  refine (same_eq a1 b1 a2 b2 HL1.out HM1.out HL2.out HM2.out X1.out Y1.out X2.out Y2.out).mono ?_
  rintro e w3 ⟨rfl, hb⟩
  have BS4 := Lib.hid (BS3.out.on hb)
  replace X1 := Lib.hid (X1.out.below hb)
  replace Y1 := Lib.hid (Y1.out.below hb)
  clear hb q0 q1 t1 BS2 BS3
  go_wp2_with fail
  refine (awake_any _).mono ?_
  rintro e w4 ⟨rfl, hb⟩
  have HB := Lib.hid (BS4.out.on hb).below
  clear hb
  go_wp2
  go_ret
  exact ⟨rfl, HB.out⟩
end Fr
theorem fracOf_walk (W : World) (x : Int) (wx : (Lit.int .i64 x).wf = true) (y : Int) (wy : (Lit.int .i64 y).wf = true) :
    Calls Try.prog 4 #[.int .i64 x, .int .i64 y] W fun e w' => e = .returned (.bool true) ∧ Below W.heap.size W w' := by
  have hx : x ≤ 9223372036854775807 := by simp [Lit.wf] at wx; omega
  have hy : y ≤ 9223372036854775807 := by simp [Lit.wf] at wy; omega
  obtain ⟨a, b, v, hk, hr, hv | ⟨rfl, h1, h2, h3⟩⟩ := Fr.of_tell W hx hy
  · exact Fr.of_none hk hr hv
  · exact Fr.of_good hk hr h1 h2 h3
end Go.Proofs.Yteclghokkdkolaa
