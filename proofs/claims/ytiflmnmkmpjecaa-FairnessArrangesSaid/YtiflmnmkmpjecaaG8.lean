/- Several texts in one. -/
import Derived.Test.YtiflmnmkmpjecaaFrArith
import Derived.Lib.Strings
import Derived.Lib.Slices
import Derived.Lib.Walk
import Derived.Test.YtiflmnmkmpjecaaNatFormat
import Derived.Laws.Concat
/- The walk of strings.Repeat at the text "0", up to 19 copies. -/
set_option linter.unusedVariables false
namespace Go.Proofs.Ytiflmnmkmpjecaa
open Go.RowKit
namespace Fr
/-- c times the byte '0'. -/
def zeros (c : Nat) : ByteArray := ⟨(List.replicate c (48 : UInt8)).toArray⟩
end Fr
end Go.Proofs.Ytiflmnmkmpjecaa

/- The walk of frac.Decimal. -/
set_option linter.unusedVariables false
namespace Go.Proofs.Ytiflmnmkmpjecaa
open Go.RowKit
namespace Fr
/-- The digits, with zeros ahead where they are too few. -/
def pad (q P : Nat) : ByteArray := if (Dc.text q).size ≤ P then zeros (P + 1 - (Dc.text q).size) ++ Dc.text q else Dc.text q
/-- A number of 10^P-th parts in decimal. -/
def dec (q P : Nat) : ByteArray := if P = 0 then Dc.text q else (pad q P).extract 0 ((pad q P).size - P) ++ ⟨#[46]⟩ ++ (pad q P).extract ((pad q P).size - P) (pad q P).size
theorem pow_bound (m : Nat) : 4294967296 ^ m ≤ 10 ^ (10 * m) := by
  rw [Nat.pow_mul]
  exact Nat.pow_le_pow_left (by omega) m
theorem text_le {q : Nat} (h : L32 q ≤ 64) : (Dc.text q).size ≤ 700 := by
  rw [Dc.text_size]
  split
  · omega
  · have : Dc.len q ≤ 10 * L32 q := Nt.len_le (by omega) (Nat.lt_of_lt_of_le (fit32_len q) (pow_bound (L32 q)))
    omega
end Fr
end Go.Proofs.Ytiflmnmkmpjecaa

/- The walks of frac.Make where it refuses, and of frac.Of. -/
set_option linter.unusedVariables false
namespace Go.Proofs.Ytiflmnmkmpjecaa
open Go.RowKit
namespace Fr
set_option maxHeartbeats 4000000 in
theorem make_bad {D E : Option Addr} {n m c c' : Nat} {f g : Nat → Nat} {w : World} (hn : n ≤ 9223372036854775807) (hm : m ≤ 9223372036854775807) (hx : Cells w D n (Lm f)) (hy : Cells w E m (Lm g)) (hv : vd n f = false ∨ vd n f = true ∧ vd m g = false) :
    Calls Try.prog 57 #[natv D n c, natv E m c'] w fun e w' => Err e 2 ∧ Below w.heap.size w w' := by
  have BS0 := Lib.hid (boxes w (.slice D n c) (.slice E m c'))
  unfold natv
  rcases hv with hv | ⟨hv, hv2⟩
  · have HV := Lib.hid hv
    clear hv
    go_enter Try.func57, Try.ntmps57
    go_wp2_with fail
    refine (nvalid_is hn (hx.below BS0.out.below) HV.out).mono ?_
    rintro e w1 ⟨rfl, hb1⟩
    have bs := BS0.out.on hb1
    obtain ⟨z, hz⟩ : ∃ z, z = w.heap.size + 1 + 1 := ⟨_, rfl⟩
    rw [← hz] at bs ⊢
    have hzw : w.heap.size ≤ z := by omega
    obtain ⟨_, lz, kz⟩ := bs.get (.head _)
    have HB := Lib.hid bs.below
    have r0 : w1.cell? ⟨z, 0, none⟩ = some (.slice none 0 0) := kz.cell 0
    have r1 : w1.cell? ⟨z, 1, none⟩ = some (.slice none 0 0) := kz.cell 1
    have f0 : w1.frozen? ⟨z, 0, none⟩ = false := kz.frozen 0
    have f1 : w1.frozen? ⟨z, 1, none⟩ = false := kz.frozen 1
    clear bs kz hz hb1
    go_wp2
    refine bodyPost_ret (v := .tuple #[fv none 0 0 none 0 0, .int .i64 2]) (by unfold fv; simp [results, Try.results57, go_sem, r0, r1]) rfl ?_
    refine ⟨rfl, ?_⟩
    repeat' (first | exact HB.out | refine bl_alloc ?_ _ | refine bse ?_ (by assumption) _ _ | refine Below.drew ?_)
  · have HV := Lib.hid hv
    have HV2 := Lib.hid hv2
    clear hv hv2
    go_enter Try.func57, Try.ntmps57
    go_wp2_with fail
    refine (nvalid_is hn (hx.below BS0.out.below) HV.out).mono ?_
    rintro e w1 ⟨rfl, hb1⟩
    have BS1 := Lib.hid (BS0.out.on hb1)
    have q1 : w1.cell? ⟨w.heap.size + 1, 0, none⟩ = some (.slice E m c') := (BS1.out.get (.tail _ (.head _))).2.2.cell 0
    clear hb1 BS0
    go_wp2_with fail
    refine (nvalid_is hm (hy.below BS1.out.below) HV2.out).mono ?_
    rintro e w2 ⟨rfl, hb1⟩
    clear q1
    have bs := BS1.out.on hb1
    obtain ⟨z, hz⟩ : ∃ z, z = w.heap.size + 1 + 1 := ⟨_, rfl⟩
    rw [← hz] at bs ⊢
    have hzw : w.heap.size ≤ z := by omega
    obtain ⟨_, lz, kz⟩ := bs.get (.head _)
    have HB := Lib.hid bs.below
    have r0 : w2.cell? ⟨z, 0, none⟩ = some (.slice none 0 0) := kz.cell 0
    have r1 : w2.cell? ⟨z, 1, none⟩ = some (.slice none 0 0) := kz.cell 1
    have f0 : w2.frozen? ⟨z, 0, none⟩ = false := kz.frozen 0
    have f1 : w2.frozen? ⟨z, 1, none⟩ = false := kz.frozen 1
    clear bs kz hz hb1
    go_wp2
    refine bodyPost_ret (v := .tuple #[fv none 0 0 none 0 0, .int .i64 2]) (by unfold fv; simp [results, Try.results57, go_sem, r0, r1]) rfl ?_
    refine ⟨rfl, ?_⟩
    repeat' (first | exact HB.out | refine bl_alloc ?_ _ | refine bse ?_ (by assumption) _ _ | refine Below.drew ?_)
set_option maxHeartbeats 4000000 in
theorem make_zero {D E : Option Addr} {n c c' : Nat} {f : Nat → Nat} {w : World} (hn : n ≤ 9223372036854775807) (hx : Cells w D n (Lm f)) (hv : vd n f = true) :
    Calls Try.prog 57 #[natv D n c, natv E 0 c'] w fun e w' => Err e 10 ∧ Below w.heap.size w w' := by
  have BS0 := Lib.hid (boxes w (.slice D n c) (.slice E 0 c'))
  unfold natv
  have HV := Lib.hid hv
  have HV2 := Lib.hid (show vd 0 (fun _ => 0) = true from rfl)
  clear hv
  go_enter Try.func57, Try.ntmps57
  go_wp2_with fail
  refine (nvalid_is hn (hx.below BS0.out.below) HV.out).mono ?_
  rintro e w1 ⟨rfl, hb1⟩
  have BS1 := Lib.hid (BS0.out.on hb1)
  have q1 : w1.cell? ⟨w.heap.size + 1, 0, none⟩ = some (.slice E 0 c') := (BS1.out.get (.tail _ (.head _))).2.2.cell 0
  clear hb1 BS0
  go_wp2_with fail
  refine (nvalid_is (n := 0) (f := fun _ => 0) (by omega) Cells.nil HV2.out).mono ?_
  rintro e w2 ⟨rfl, hb1⟩
  clear q1
  have bs := BS1.out.on hb1
  obtain ⟨z, hz⟩ : ∃ z, z = w.heap.size + 1 + 1 := ⟨_, rfl⟩
  rw [← hz] at bs ⊢
  have hzw : w.heap.size ≤ z := by omega
  obtain ⟨_, lz, kz⟩ := bs.get (.head _)
  obtain ⟨_, l1, k1⟩ := bs.get (.tail _ (.head _))
  have HB := Lib.hid bs.below
  have q1 : w2.cell? ⟨w.heap.size + 1, 0, none⟩ = some (.slice E 0 c') := k1.cell 0
  have r0 : w2.cell? ⟨z, 0, none⟩ = some (.slice none 0 0) := kz.cell 0
  have r1 : w2.cell? ⟨z, 1, none⟩ = some (.slice none 0 0) := kz.cell 1
  have f0 : w2.frozen? ⟨z, 0, none⟩ = false := kz.frozen 0
  have f1 : w2.frozen? ⟨z, 1, none⟩ = false := kz.frozen 1
  clear bs kz hz hb1 k1
  go_wp2
  refine bodyPost_ret (v := .tuple #[fv none 0 0 none 0 0, .int .i64 10]) (by unfold fv; simp [results, Try.results57, go_sem, r0, r1]) rfl ?_
  refine ⟨rfl, ?_⟩
  repeat' (first | exact HB.out | refine bl_alloc ?_ _ | refine bse ?_ (by assumption) _ _ | refine Below.drew ?_)
theorem box0 (w : World) : Bs w (w.alloc (.cells #[.slice none 0 0, .slice none 0 0] TF)) [(w.heap.size, TF, #[.slice none 0 0, .slice none 0 0])] := (Bs.nil w).alloc TF #[.slice none 0 0, .slice none 0 0]
set_option maxHeartbeats 4000000 in
theorem of_neg (w : World) {x y : Int} (h : x < 0 ∨ 0 ≤ x ∧ y < 0) :
    Calls Try.prog 35 #[.int .i64 x, .int .i64 y] w fun e w' => Err e 2 ∧ Below w.heap.size w w' := by
  have HB := Lib.hid (box0 w).below
  obtain ⟨z, hz⟩ : ∃ z, z = w.heap.size := ⟨_, rfl⟩
  have hzw : w.heap.size ≤ z := by omega
  clear hz
  rcases h with h | ⟨h, h2⟩
  all_goals
    go_enter Try.func35, Try.ntmps35
    go_wp2
    refine bodyPost_ret (v := .tuple #[fv none 0 0 none 0 0, .int .i64 2]) (by unfold fv; simp [results, Try.results35, go_sem]) rfl ?_
    refine ⟨rfl, ?_⟩
    repeat' (first | exact HB.out | refine bl_alloc ?_ _ | refine bse ?_ (by first | assumption | exact Nat.le_refl _) _ _ | refine Below.drew ?_)
set_option maxHeartbeats 4000000 in
theorem of_ok (w : World) {x y : Nat} (hx : x ≤ 9223372036854775807) (hy : y ≤ 9223372036854775807) (hy0 : 0 < y) :
    Calls Try.prog 35 #[.int .i64 (x : Int), .int .i64 (y : Int)] w fun e w' => Res w.heap.size w' e (x / Nat.gcd x y) (y / Nat.gcd x y) ∧ Below w.heap.size w w' := by
  have BS0 := Lib.hid (box0 w)
  have k1 : ((x : Int) < 0) = False := eq_false (by omega)
  have k2 : ((y : Int) < 0) = False := eq_false (by omega)
  have k3 : IntKind.u64.wrap (x : Int) = (x : Int) := IntWalk.u64_in _ (by omega)
  have k4 : IntKind.u64.wrap (y : Int) = (y : Int) := IntWalk.u64_in _ (by omega)
  obtain ⟨lx, hlx⟩ : ∃ l, l = L32 x := ⟨_, rfl⟩
  obtain ⟨ly, hly⟩ : ∃ l, l = L32 y := ⟨_, rfl⟩
  have HLX := Lib.hid hlx
  have HLY := Lib.hid hly
  have hlx64 : lx ≤ 64 := by rw [hlx]; exact Nat.le_trans (fit32_le (N := x) (n := 2) (Nat.lt_of_le_of_lt hx (by decide))) (by omega)
  have hly64 : ly ≤ 64 := by rw [hly]; exact Nat.le_trans (fit32_le (N := y) (n := 2) (Nat.lt_of_le_of_lt hy (by decide))) (by omega)
  have HY0 := Lib.hid hy0
  have HNX := Lib.hid (show x < 18446744073709551616 by omega)
  have HNY := Lib.hid (show y < 18446744073709551616 by omega)
  clear hlx hly hx hy hy0
  go_enter Try.func35, Try.ntmps35
  go_wp2_with fail
  (with_reducible refine (of_any x HNX.out _).mono ?_)
  rintro e w1 ⟨Dx, cx, rfl, _, hcx, hb1⟩
  rw [← HLX.out] at hcx ⊢
  have BS1 := Lib.hid (BS0.out.on hb1)
  have HCX := Lib.hid hcx
  clear hcx hb1 BS0
  go_wp2_with fail
  (with_reducible refine (of_any y HNY.out _).mono ?_)
  rintro e w2 ⟨Dy, cy, rfl, _, hcy, hb2⟩
  rw [← HLY.out] at hcy ⊢
  have BS2 := Lib.hid (BS1.out.on hb2)
  have HCX2 := Lib.hid (HCX.out.below hb2)
  have HCY := Lib.hid hcy
  clear hcy hb2 BS1
  go_wp2_with fail
  refine (make_any (x := x) (y := y) hlx64 hly64 HLX.out HLY.out HCX2.out HCY.out HY0.out).mono ?_
  rintro e w4 ⟨⟨Da, ca, Db, cb, rfl, hla, hlb, hca, hcb, hfa, hfb⟩, hb4⟩
  have HZ6 := Lib.hid (BS2.out.get (.head _)).2.1
  have HW6 := Lib.hid BS2.out.below.size
  have BS4 := Lib.hid (BS2.out.on hb4)
  obtain ⟨l1, hl1⟩ : ∃ l, l = L32 (x / Nat.gcd x y) := ⟨_, rfl⟩
  obtain ⟨l2, hl2⟩ : ∃ l, l = L32 (y / Nat.gcd x y) := ⟨_, rfl⟩
  rw [← hl1] at hla hca ⊢
  rw [← hl2] at hlb hcb ⊢
  have HL1 := Lib.hid hl1
  have HL2 := Lib.hid hl2
  have HCA := Lib.hid hca
  have HCB := Lib.hid hcb
  have HFA := Lib.hid hfa
  have HFB := Lib.hid hfb
  obtain ⟨_, lz, kz⟩ := BS4.out.get (.head _)
  obtain ⟨z, hz⟩ : ∃ z, z = w.heap.size := ⟨_, rfl⟩
  have HZW := Lib.hid (show w.heap.size ≤ z by omega)
  have HZ7 : Hid (z < w2.heap.size) := by rw [hz]; exact HZ6
  rw [← hz] at kz lz
  have s0 : w4.cell? ⟨z, 0, none⟩ = some (.slice none 0 0) := kz.cell 0
  have s1 : w4.cell? ⟨z, 1, none⟩ = some (.slice none 0 0) := kz.cell 1
  have f0 : w4.frozen? ⟨z, 0, none⟩ = false := kz.frozen 0
  have f1 : w4.frozen? ⟨z, 1, none⟩ = false := kz.frozen 1
  have HB7 := Lib.hid BS4.out.below
  rw [show (Value.pointer (some ⟨w.heap.size, 0, none⟩)) = .pointer (some ⟨z, 0, none⟩) by rw [hz]]
  clear hl1 hl2 hca hcb hfa hfb kz hz hb4
  unfold fv
  go_wp2
  refine bodyPost_ret (v := .tuple #[fv Da l1 ca Db l2 cb, .int .i64 0]) (by unfold fv; simp [results, Try.results35, go_sem, s0, s1]) rfl ?_
  refine ⟨⟨Da, ca, Db, cb, by rw [← HL1.out, ← HL2.out], by rw [← HL1.out]; exact hla, by rw [← HL2.out]; exact hlb, ?_, ?_, HFA.out.mono HW6.out, HFB.out.mono HW6.out⟩, ?_⟩
  · rw [← HL1.out]
    exact (HCA.out.set_ HFA.out HZ7.out _ _).set_ HFA.out HZ7.out _ _
  · rw [← HL2.out]
    exact (HCB.out.set_ HFB.out HZ7.out _ _).set_ HFB.out HZ7.out _ _
  · repeat' (first | exact HB7.out | refine bl_alloc ?_ _ | refine bse ?_ HZW.out _ _ | refine Below.drew ?_)
set_option maxHeartbeats 4000000 in
theorem of_zero (w : World) {x : Nat} (hx : x ≤ 9223372036854775807) :
    Calls Try.prog 35 #[.int .i64 (x : Int), .int .i64 0] w fun e w' => Err e 10 ∧ Below w.heap.size w w' := by
  have BS0 := Lib.hid (box0 w)
  have k1 : ((x : Int) < 0) = False := eq_false (by omega)
  have k3 : IntKind.u64.wrap (x : Int) = (x : Int) := IntWalk.u64_in _ (by omega)
  obtain ⟨lx, hlx⟩ : ∃ l, l = L32 x := ⟨_, rfl⟩
  have HLX := Lib.hid hlx
  have hlx64 : lx ≤ 64 := by rw [hlx]; exact Nat.le_trans (fit32_le (N := x) (n := 2) (Nat.lt_of_le_of_lt hx (by decide))) (by omega)
  have HNX := Lib.hid (show x < 18446744073709551616 by omega)
  have HVX := Lib.hid (vd_true hlx64 hlx)
  have HL0 := Lib.hid (show L32 0 = 0 from L32_zero.2 rfl)
  clear hlx hx
  go_enter Try.func35, Try.ntmps35
  go_wp2_with fail
  (with_reducible refine (of_any x HNX.out _).mono ?_)
  rintro e w1 ⟨Dx, cx, rfl, _, hcx, hb1⟩
  rw [← HLX.out] at hcx ⊢
  have BS1 := Lib.hid (BS0.out.on hb1)
  have HCX := Lib.hid hcx
  clear hcx hb1 BS0
  go_wp2_with fail
  refine (of_any 0 (by omega) _).mono ?_
  rintro e w2 ⟨Dy, cy, rfl, _, hcy, hb2⟩
  rw [HL0.out] at hcy ⊢
  have BS2 := Lib.hid (BS1.out.on hb2)
  have HCX2 := Lib.hid (HCX.out.below hb2)
  clear hcy hb2 BS1
  go_wp2_with fail
  refine (make_zero (by omega) HCX2.out HVX.out).mono ?_
  rintro e w4 ⟨rfl, hb4⟩
  have BS4 := Lib.hid (BS2.out.on hb4)
  obtain ⟨_, lz, kz⟩ := BS4.out.get (.head _)
  obtain ⟨z, hz⟩ : ∃ z, z = w.heap.size := ⟨_, rfl⟩
  have HZW := Lib.hid (show w.heap.size ≤ z by omega)
  rw [← hz] at kz lz
  have s0 : w4.cell? ⟨z, 0, none⟩ = some (.slice none 0 0) := kz.cell 0
  have s1 : w4.cell? ⟨z, 1, none⟩ = some (.slice none 0 0) := kz.cell 1
  have f0 : w4.frozen? ⟨z, 0, none⟩ = false := kz.frozen 0
  have f1 : w4.frozen? ⟨z, 1, none⟩ = false := kz.frozen 1
  have HB7 := Lib.hid BS4.out.below
  rw [show (Value.pointer (some ⟨w.heap.size, 0, none⟩)) = .pointer (some ⟨z, 0, none⟩) by rw [hz]]
  clear kz hz hb4
  unfold fv
  go_wp2
  refine bodyPost_ret (v := .tuple #[fv none 0 0 none 0 0, .int .i64 10]) (by unfold fv; simp [results, Try.results35, go_sem, s0, s1]) rfl ?_
  refine ⟨rfl, ?_⟩
  repeat' (first | exact HB7.out | refine bl_alloc ?_ _ | refine bse ?_ HZW.out _ _ | refine Below.drew ?_)
end Fr
end Go.Proofs.Ytiflmnmkmpjecaa

/- The walks of the reference's Same, and of the law's fractions of small numbers. -/
set_option linter.unusedVariables false
namespace Go.Proofs.Ytiflmnmkmpjecaa
open Go.RowKit
namespace Fr
theorem num_eq {x y : Nat} (h : L32 x = L32 y) (hd : ∀ j, j < L32 x → d32 x j = d32 y j) : x = y := by
  have h1 := Nt.dig_ext (b := 4294967296) (by omega) (x := x) (y := y) (L32 x) hd
  have h2 := fit32_len x
  have h3 := fit32_len y
  rw [← h] at h3
  unfold Fit32 at h2 h3
  rw [Nat.mod_eq_of_lt h2, Nat.mod_eq_of_lt h3] at h1
  exact h1
theorem all_next {x y k : Nat} (h : ∀ j, j < k → d32 x j = d32 y j) (hk : d32 x k = d32 y k) : ∀ j, j < k + 1 → d32 x j = d32 y j := fun j hj => by
  by_cases e : j = k
  · rw [e]; exact hk
  · exact h j (by omega)
set_option maxHeartbeats 2000000 in
theorem limbs_any {D E : Option Addr} {n m c c' x y : Nat} {w : World} (hn : n ≤ 1000) (hm : m ≤ 1000) (hnx : n = L32 x) (hmy : m = L32 y) (hx : Cells w D n (Lm (d32 x))) (hy : Cells w E m (Lm (d32 y))) :
    Calls Try.prog 43 #[.slice D n c, .slice E m c'] w fun e w' => e = .returned (.bool (decide (x = y))) ∧ Below w.heap.size w w' := by
  by_cases hnm : n = m
  · subst hnm
    have HE := Lib.hid (fun (h : ∀ j, j < n → d32 x j = d32 y j) => num_eq (x := x) (y := y) (by omega) (by rw [← hnx]; exact h))
    have h0 : ((n : Int) != (n : Int)) = false := by simp
    clear hnx hmy
    go_enter Try.func43, Try.ntmps43
    go_wp2
    go_loopw [5] (fun i wr => ∃ k : Nat, k ≤ n ∧ i = .int .i64 (k : Int) ∧ Hid (∀ j, j < k → d32 x j = d32 y j) ∧ Hid (Below w.heap.size w wr)) (fun i _ => n - (intOf i).toNat)
    case atStart => exact ⟨0, Nat.zero_le _, rfl, fun j hj => absurd hj (by omega), Below.refl _ _⟩
    case round =>
      obtain ⟨k, hk, rfl, HA, HB⟩ := hrel
      by_cases hkn : k < n
      · obtain ⟨b1, o1, rfl, hlt1, hc1⟩ := (hx.below HB.out).lm hkn
        obtain ⟨b2, o2, rfl, hlt2, hc2⟩ := (hy.below HB.out).lm hkn
        by_cases hd : d32 x k = d32 y k
        · have e1 : ((d32 x k : Int) != (d32 y k : Int)) = false := by simp [hd]
          have e2 : (d32 x k != d32 y k) = false := by simp [hd]
          have HA2 := Lib.hid (all_next HA.out hd)
          clear hd
          go_wp2
          go_quiet (fail)
          go_wp2
          go_roundw
          case rel => exact ⟨k + 1, by omega, by go_num, HA2, below_drewN HB.out _⟩
          case measure => simp [intOf]; omega
        · have e1 : ((d32 x k : Int) != (d32 y k : Int)) = true := by simp; omega
          have e2 : (d32 x k != d32 y k) = true := by simp; omega
          have HF : Hid (decide (x = y) = false) := Lib.hid (decide_eq_false (fun e => hd (by rw [e])))
          clear hd
          go_wp2
          go_quiet (fail)
          go_wp2
          go_ret
          exact ⟨by rw [HF.out]; rfl, below_drewN HB.out _⟩
      · obtain rfl : k = n := by omega
        have HF : Hid (decide (x = y) = true) := Lib.hid (decide_eq_true (HE.out HA.out))
        go_wp2
        go_ret
        exact ⟨by rw [HF.out]; rfl, HB.out⟩
  · have h0 : ((n : Int) != (m : Int)) = true := by simp; omega
    have HF : Hid (decide (x = y) = false) := Lib.hid (decide_eq_false (fun e => hnm (by rw [hnx, hmy, e])))
    clear hnx hmy hnm
    go_enter Try.func43, Try.ntmps43
    go_wp2
    go_ret
    exact ⟨by rw [HF.out]; rfl, Below.refl _ _⟩
set_option maxHeartbeats 2000000 in
theorem same_any {D0 D1 D2 D3 : Option Addr} {n0 n1 n2 n3 c0 c1 c2 c3 x0 x1 x2 x3 : Nat} {w : World} (hn0 : n0 ≤ 1000) (hn1 : n1 ≤ 1000) (hn2 : n2 ≤ 1000) (hn3 : n3 ≤ 1000) (h0 : n0 = L32 x0) (h1 : n1 = L32 x1) (h2 : n2 = L32 x2) (h3 : n3 = L32 x3)
    (hx0 : Cells w D0 n0 (Lm (d32 x0))) (hx1 : Cells w D1 n1 (Lm (d32 x1))) (hx2 : Cells w D2 n2 (Lm (d32 x2))) (hx3 : Cells w D3 n3 (Lm (d32 x3))) :
    Calls Try.prog 17 #[fv D0 n0 c0 D1 n1 c1, fv D2 n2 c2 D3 n3 c3] w fun e w' => e = .returned (.bool (decide (x0 = x2) && decide (x1 = x3))) ∧ Below w.heap.size w w' := by
  have H0 := Lib.hid h0
  have H1 := Lib.hid h1
  have H2 := Lib.hid h2
  have H3 := Lib.hid h3
  have BS0 := Lib.hid (boxes2F w (.slice D0 n0 c0) (.slice D1 n1 c1) (.slice D2 n2 c2) (.slice D3 n3 c3))
  have HK := limbs_any (c := c0) (c' := c2) hn0 hn2 h0 h2 (hx0.below BS0.out.below) (hx2.below BS0.out.below)
  obtain ⟨dd, hdd⟩ : ∃ b, b = decide (x1 = x3) := ⟨_, rfl⟩
  rw [← hdd]
  have HDD := Lib.hid hdd
  clear h0 h1 h2 h3 hdd
  unfold fv
  go_enter Try.func17, Try.ntmps17
  cases hd : decide (x0 = x2) with
  | false =>
    rw [hd] at HK
    have HKH := Lib.hid HK
    clear HK hd
    go_wp2_with fail
    refine HKH.out.mono ?_
    rintro e w1 ⟨rfl, hb1⟩
    have HB := Lib.hid (BS0.out.on hb1).below
    clear hb1
    go_wp2
    go_ret
    exact ⟨rfl, HB.out⟩
  | true =>
    rw [hd] at HK
    have HKH := Lib.hid HK
    clear HK hd
    go_wp2_with fail
    refine HKH.out.mono ?_
    rintro e w1 ⟨rfl, hb1⟩
    have BS1 := Lib.hid (BS0.out.on hb1)
    obtain ⟨_, la, ka⟩ := BS1.out.get (.tail _ (.head _))
    obtain ⟨_, lb, kb⟩ := BS1.out.get (.head _)
    have qa : w1.cell? ⟨w.heap.size, 1, none⟩ = some (.slice D1 n1 c1) := ka.cell 1
    have qb : w1.cell? ⟨w.heap.size + 1, 1, none⟩ = some (.slice D3 n3 c3) := kb.cell 1
    have HK2 := limbs_any (c := c1) (c' := c3) hn1 hn3 H1.out H3.out (hx1.below BS1.out.below) (hx3.below BS1.out.below)
    rw [← HDD.out] at HK2
    have HKH2 := Lib.hid HK2
    clear hb1 ka kb BS0 HK2
    go_wp2_with fail
    refine HKH2.out.mono ?_
    rintro e w2 ⟨rfl, hb2⟩
    have HB := Lib.hid (BS1.out.on hb2).below
    clear hb2
    go_wp2
    go_ret
    exact ⟨by simp, HB.out⟩
end Fr
end Go.Proofs.Ytiflmnmkmpjecaa
