/- The walk of the law's examples: awake returns true. -/
import Derived.Test.YteclghokkdkolaaFrSmall
import Derived.Deep.RegionHeld3
set_option linter.unusedVariables false
namespace Go.Proofs.Yteclghokkdkolaa
open Go.RowKit
namespace Fr
theorem text_6666 : Dc.text 6666 = ⟨#[54, 54, 54, 54]⟩ := by
  unfold Dc.text Dc.bytes
  rw [if_neg (by omega), show Dc.len 6666 = 4 from Nt.len_eq (by omega) (by omega) (.inr (by omega))]
  rfl
theorem dec_6666 : dec (2 * 10 ^ 4 / 3) 4 = ⟨#[48, 46, 54, 54, 54, 54]⟩ := by
  rw [show 2 * 10 ^ 4 / 3 = 6666 from rfl]
  unfold dec pad
  rw [text_6666]
  rfl
theorem L1 {k : Nat} (h0 : 0 < k) (h1 : k < 4294967296) : L32 k ≤ 64 := by rw [L32_one h0 h1]; omega
/-- A fraction of small numbers in memory. -/
structure Sm (w : World) (D E : Option Addr) (x y : Nat) : Prop where
  x0 : 0 < x
  x1 : x < 4294967296
  y0 : 0 < y
  y1 : y < 4294967296
  cx : Cells w D 1 (Lm (d32 x))
  cy : Cells w E 1 (Lm (d32 y))
theorem Sm.below {w w' : World} {D E : Option Addr} {x y : Nat} (s : Sm w D E x y) (h : Below w.heap.size w w') : Sm w' D E x y := ⟨s.x0, s.x1, s.y0, s.y1, s.cx.below h, s.cy.below h⟩
theorem sm_any (w : World) {x y : Nat} (hx : x < 4294967296) (hy : y < 4294967296) (hx0 : 0 < x) (hy0 : 0 < y) :
    Calls Try.prog 34 #[.int .u32 (x : Int), .int .u32 (y : Int)] w fun e w' => ∃ D c E, e = .returned (.agg #[.slice D 1 c, .slice E 1 1]) ∧ Sm w' D E x y ∧ Below w.heap.size w w' :=
  (small_any w hx hy hy0).mono fun e w' ⟨D, c, E, h1, h2, h3, h4⟩ => by
    rw [L32_one hx0 hx] at h1 h2
    exact ⟨D, c, E, h1, ⟨hx0, hx, hy0, hy, h2, h3⟩, h4⟩
section
variable {w : World} {D0 D1 D2 D3 : Option Addr} {c0 c1 c2 c3 x0 x1 y0 y1 : Nat}
theorem same_sm (s : Sm w D0 D1 x0 x1) (t : Sm w D2 D3 y0 y1) {b : Bool} (hb : (decide (x0 = y0) && decide (x1 = y1)) = b) :
    Calls Try.prog 16 #[.agg #[.slice D0 1 c0, .slice D1 1 c1], .agg #[.slice D2 1 c2, .slice D3 1 c3]] w fun e w' => e = .returned (.bool b) ∧ Below w.heap.size w w' := by
  subst hb
  exact same_any (by omega) (by omega) (by omega) (by omega) (L32_one s.x0 s.x1).symm (L32_one s.y0 s.y1).symm (L32_one t.x0 t.x1).symm (L32_one t.y0 t.y1).symm s.cx s.cy t.cx t.cy
theorem valid_sm (s : Sm w D0 D1 x0 x1) {b : Bool} (hb : fok x0 x1 = b) :
    Calls Try.prog 19 #[.agg #[.slice D0 1 c0, .slice D1 1 c1]] w fun e w' => e = .returned (.bool b) ∧ Below w.heap.size w w' := by
  subst hb
  exact valid_any (by omega) (by omega) (L32_one s.x0 s.x1).symm (L32_one s.y0 s.y1).symm s.cx s.cy
theorem cmp_sm (s : Sm w D0 D1 x0 x1) (t : Sm w D2 D3 y0 y1) {v : Int} (hv : (if fok x0 x1 = true ∧ fok y0 y1 = true then cmpI (x0 * y1) (y0 * x1) else 0) = v) :
    Calls Try.prog 22 #[.agg #[.slice D0 1 c0, .slice D1 1 c1], .agg #[.slice D2 1 c2, .slice D3 1 c3]] w fun e w' => e = .returned (.int .i64 v) ∧ Below w.heap.size w w' := by
  subst hv
  exact cmp_any (by omega) (by omega) (by omega) (by omega) (L32_one s.x0 s.x1).symm (L32_one s.y0 s.y1).symm (L32_one t.x0 t.x1).symm (L32_one t.y0 t.y1).symm s.cx s.cy t.cx t.cy
theorem res_sm {B : Nat} {w' : World} {e : Ending} {a b a' b' : Nat} (h : Res B w' e a b) (ha : a = a') (hb : b = b') (h0 : 0 < a') (h1 : a' < 4294967296) (h2 : 0 < b') (h3 : b' < 4294967296) :
    ∃ D c E c', e = .returned (.tuple #[.agg #[.slice D 1 c, .slice E 1 c'], .int .i64 0]) ∧ Sm w' D E a' b' := by
  subst ha hb
  obtain ⟨D, c, E, c', he, _, _, hc, hd, _, _⟩ := h
  rw [L32_one h0 h1] at he hc
  rw [L32_one h2 h3] at he hd
  exact ⟨D, c, E, c', he, ⟨h0, h1, h2, h3, hc, hd⟩⟩
theorem add_sm (s : Sm w D0 D1 1 6) (t : Sm w D2 D3 1 10) :
    Calls Try.prog 24 #[.agg #[.slice D0 1 c0, .slice D1 1 c1], .agg #[.slice D2 1 c2, .slice D3 1 c3]] w fun e w' => (∃ D c E c', e = .returned (.tuple #[.agg #[.slice D 1 c, .slice E 1 c'], .int .i64 0]) ∧ Sm w' D E 4 15) ∧ Below w.heap.size w w' := by
  refine (add_ok (xn := 1) (xd := 6) (yn := 1) (yd := 10) (by omega) (by omega) (by omega) (by omega) (L32_one (by omega) (by omega)).symm (L32_one (by omega) (by omega)).symm (L32_one (by omega) (by omega)).symm (L32_one (by omega) (by omega)).symm s.cx s.cy t.cx t.cy (by decide) (by decide)).mono ?_
  rintro e w' ⟨h | h, hb⟩
  · exact ⟨res_sm h.2 (by decide) (by decide) (by omega) (by omega) (by omega) (by omega), hb⟩
  · exact absurd ⟨L1 (by omega) (by omega), L1 (by omega) (by omega), L1 (by omega) (by omega), L1 (by omega) (by omega)⟩ h.1
theorem sub_sm (s : Sm w D0 D1 1 10) (t : Sm w D2 D3 1 6) :
    Calls Try.prog 26 #[.agg #[.slice D0 1 c0, .slice D1 1 c1], .agg #[.slice D2 1 c2, .slice D3 1 c3]] w fun e w' => e = .returned (.tuple #[.agg #[.slice none 0 0, .slice none 0 0], .int .i64 2]) ∧ Below w.heap.size w w' :=
  sub_less (xn := 1) (xd := 10) (yn := 1) (yd := 6) (by omega) (by omega) (by omega) (by omega) (L32_one (by omega) (by omega)).symm (L32_one (by omega) (by omega)).symm (L32_one (by omega) (by omega)).symm (L32_one (by omega) (by omega)).symm s.cx s.cy t.cx t.cy (by decide) (by decide) (by decide)
theorem mul_sm (s : Sm w D0 D1 2 3) (t : Sm w D2 D3 3 4) :
    Calls Try.prog 28 #[.agg #[.slice D0 1 c0, .slice D1 1 c1], .agg #[.slice D2 1 c2, .slice D3 1 c3]] w fun e w' => (∃ D c E c', e = .returned (.tuple #[.agg #[.slice D 1 c, .slice E 1 c'], .int .i64 0]) ∧ Sm w' D E 1 2) ∧ Below w.heap.size w w' := by
  refine (mul_ok (xn := 2) (xd := 3) (yn := 3) (yd := 4) (by omega) (by omega) (by omega) (by omega) (L32_one (by omega) (by omega)).symm (L32_one (by omega) (by omega)).symm (L32_one (by omega) (by omega)).symm (L32_one (by omega) (by omega)).symm s.cx s.cy t.cx t.cy (by decide) (by decide)).mono ?_
  rintro e w' ⟨h | h, hb⟩
  · exact ⟨res_sm h.2 (by decide) (by decide) (by omega) (by omega) (by omega) (by omega), hb⟩
  · exact absurd ⟨L1 (by omega) (by omega), L1 (by omega) (by omega)⟩ h.1
theorem div_sm (s : Sm w D0 D1 1 2) (hd : Cells w D2 0 (Lm (d32 0))) (he : Cells w D3 1 (Lm (d32 1))) :
    Calls Try.prog 30 #[.agg #[.slice D0 1 c0, .slice D1 1 c1], .agg #[.slice D2 0 c2, .slice D3 1 c3]] w fun e w' => e = .returned (.tuple #[.agg #[.slice none 0 0, .slice none 0 0], .int .i64 10]) ∧ Below w.heap.size w w' :=
  div_zero (xn := 1) (xd := 2) (yn := 0) (yd := 1) (by omega) (by omega) (by omega) (by omega) (L32_one (by omega) (by omega)).symm (L32_one (by omega) (by omega)).symm (L32_zero.2 rfl).symm (L32_one (by omega) (by omega)).symm s.cx s.cy hd he (by decide) (by decide) rfl
theorem dec_sm (s : Sm w D0 D1 2 3) :
    Calls Try.prog 32 #[.agg #[.slice D0 1 c0, .slice D1 1 c1], .int .i64 4] w fun e w' => e = .returned (.tuple #[.string ⟨#[48, 46, 54, 54, 54, 54]⟩, .int .i64 0]) ∧ Below w.heap.size w w' := by
  refine (dec_ok (xn := 2) (xd := 3) (P := 4) (by omega) (by omega) (L32_one (by omega) (by omega)).symm (L32_one (by omega) (by omega)).symm s.cx s.cy (by decide) (by omega)).mono ?_
  rintro e w' ⟨⟨_, h⟩ | ⟨h, _⟩, hb⟩
  · exact ⟨by rw [h, dec_6666], hb⟩
  · have := L1 (k := 2 * 10 ^ 4) (by omega) (by omega)
    omega
end
theorem of_sm (w : World) : Calls Try.prog 17 #[.int .i64 6, .int .i64 4] w fun e w' => (∃ D c E c', e = .returned (.tuple #[.agg #[.slice D 1 c, .slice E 1 c'], .int .i64 0]) ∧ Sm w' D E 3 2) ∧ Below w.heap.size w w' :=
  (of_ok w (x := 6) (y := 4) (by omega) (by omega) (by omega)).mono fun e w' ⟨h, hb⟩ => ⟨res_sm h (by decide) (by decide) (by omega) (by omega) (by omega) (by omega), hb⟩
theorem of_sz (w : World) : Calls Try.prog 17 #[.int .i64 1, .int .i64 0] w fun e w' => e = .returned (.tuple #[.agg #[.slice none 0 0, .slice none 0 0], .int .i64 10]) ∧ Below w.heap.size w w' := of_zero w (x := 1) (by omega)
set_option maxHeartbeats 8000000 in
set_option maxRecDepth 100000 in
theorem awake_any (w : World) : Calls Try.prog 13 #[] w fun e w' => e = .returned (.bool true) ∧ Below w.heap.size w w' := by
  go_enter Try.func13, Try.ntmps13
  go_wp2_with fail
  refine (of_sm _).mono ?_
  rintro e w1 ⟨⟨Da, ca, Ea, ca', rfl, sa⟩, hb1⟩
  have BS1 := Lib.hid (((Bs.nil w).on hb1).alloc TF #[.slice Da 1 ca, .slice Ea 1 ca'])
  have SA := Lib.hid (sa.below ((Below.refl _ _).alloc (Nat.le_refl _) (.cells #[.slice Da 1 ca, .slice Ea 1 ca'] TF)))
  clear sa hb1
  go_wp2_with fail
  refine (sm_any _ (x := 1) (y := 6) (by omega) (by omega) (by omega) (by omega)).mono ?_
  rintro e u1 ⟨D0, c0, E0, rfl, s0, hb⟩
  have BA := Lib.hid (BS1.out.on hb)
  have S0 := Lib.hid s0
  replace SA := Lib.hid (SA.out.below hb)
  clear s0 hb
  go_wp2_with fail
  refine (sm_any _ (x := 1) (y := 10) (by omega) (by omega) (by omega) (by omega)).mono ?_
  rintro e v1 ⟨D2, c2, E2, rfl, s1, hb⟩
  have S1 := Lib.hid s1
  have BB := Lib.hid (BA.out.on hb)
  replace S0 := Lib.hid (S0.out.below hb)
  replace SA := Lib.hid (SA.out.below hb)
  clear s1 hb
  go_wp2_with fail
  refine (add_sm S0.out S1.out).mono ?_
  rintro e z1 ⟨⟨Db, cb, Eb, cb', rfl, sr⟩, hb⟩
  have BS2 := Lib.hid ((BB.out.on hb).alloc TF #[.slice Db 1 cb, .slice Eb 1 cb'])
  have SB := Lib.hid (sr.below ((Below.refl _ _).alloc (Nat.le_refl _) (.cells #[.slice Db 1 cb, .slice Eb 1 cb'] TF)))
  replace SA := Lib.hid ((SA.out.below hb).below ((Below.refl _ _).alloc (Nat.le_refl _) (.cells #[.slice Db 1 cb, .slice Eb 1 cb'] TF)))
  clear sr hb S0 S1 BA BB
  go_wp2_with fail
  refine (sm_any _ (x := 1) (y := 10) (by omega) (by omega) (by omega) (by omega)).mono ?_
  rintro e u2 ⟨D0, c0, E0, rfl, s0, hb⟩
  have BA := Lib.hid (BS2.out.on hb)
  have S0 := Lib.hid s0
  replace SA := Lib.hid (SA.out.below hb)
  replace SB := Lib.hid (SB.out.below hb)
  clear s0 hb
  go_wp2_with fail
  refine (sm_any _ (x := 1) (y := 6) (by omega) (by omega) (by omega) (by omega)).mono ?_
  rintro e v2 ⟨D2, c2, E2, rfl, s1, hb⟩
  have S1 := Lib.hid s1
  have BB := Lib.hid (BA.out.on hb)
  replace S0 := Lib.hid (S0.out.below hb)
  replace SA := Lib.hid (SA.out.below hb)
  replace SB := Lib.hid (SB.out.below hb)
  clear s1 hb
  go_wp2_with fail
  refine (sub_sm S0.out S1.out).mono ?_
  rintro e z2 ⟨rfl, hb⟩
  have BS3 := Lib.hid ((BB.out.on hb).alloc TF #[.slice none 0 0, .slice none 0 0])
  replace SA := Lib.hid ((SA.out.below hb).below ((Below.refl _ _).alloc (Nat.le_refl _) (.cells #[.slice none 0 0, .slice none 0 0] TF)))
  replace SB := Lib.hid ((SB.out.below hb).below ((Below.refl _ _).alloc (Nat.le_refl _) (.cells #[.slice none 0 0, .slice none 0 0] TF)))
  clear hb S0 BA BB S1
  go_wp2_with fail
  refine (sm_any _ (x := 2) (y := 3) (by omega) (by omega) (by omega) (by omega)).mono ?_
  rintro e u3 ⟨D0, c0, E0, rfl, s0, hb⟩
  have BA := Lib.hid (BS3.out.on hb)
  have S0 := Lib.hid s0
  replace SA := Lib.hid (SA.out.below hb)
  replace SB := Lib.hid (SB.out.below hb)
  clear s0 hb
  go_wp2_with fail
  refine (sm_any _ (x := 3) (y := 4) (by omega) (by omega) (by omega) (by omega)).mono ?_
  rintro e v3 ⟨D2, c2, E2, rfl, s1, hb⟩
  have S1 := Lib.hid s1
  have BB := Lib.hid (BA.out.on hb)
  replace S0 := Lib.hid (S0.out.below hb)
  replace SA := Lib.hid (SA.out.below hb)
  replace SB := Lib.hid (SB.out.below hb)
  clear s1 hb
  go_wp2_with fail
  refine (mul_sm S0.out S1.out).mono ?_
  rintro e z3 ⟨⟨Dm, cm, Em, cm', rfl, sr⟩, hb⟩
  have BS4 := Lib.hid ((BB.out.on hb).alloc TF #[.slice Dm 1 cm, .slice Em 1 cm'])
  have SM := Lib.hid (sr.below ((Below.refl _ _).alloc (Nat.le_refl _) (.cells #[.slice Dm 1 cm, .slice Em 1 cm'] TF)))
  replace SA := Lib.hid ((SA.out.below hb).below ((Below.refl _ _).alloc (Nat.le_refl _) (.cells #[.slice Dm 1 cm, .slice Em 1 cm'] TF)))
  replace SB := Lib.hid ((SB.out.below hb).below ((Below.refl _ _).alloc (Nat.le_refl _) (.cells #[.slice Dm 1 cm, .slice Em 1 cm'] TF)))
  clear sr hb S0 S1 BA BB
  go_wp2_with fail
  refine (sm_any _ (x := 1) (y := 2) (by omega) (by omega) (by omega) (by omega)).mono ?_
  rintro e u4 ⟨D0, c0, E0, rfl, s0, hb⟩
  have BA := Lib.hid (BS4.out.on hb)
  have S0 := Lib.hid s0
  replace SA := Lib.hid (SA.out.below hb)
  replace SB := Lib.hid (SB.out.below hb)
  replace SM := Lib.hid (SM.out.below hb)
  clear s0 hb
  go_wp2_with fail
  refine (small_any _ (x := 0) (y := 1) (by omega) (by omega) (by omega)).mono ?_
  rintro e v4 ⟨D2, c2, E2, rfl, s1a, s1b, hb⟩
  rw [show L32 0 = 0 from L32_zero.2 rfl] at s1a ⊢
  have S1a := Lib.hid s1a
  have S1b := Lib.hid s1b
  have BB := Lib.hid (BA.out.on hb)
  replace S0 := Lib.hid (S0.out.below hb)
  replace SA := Lib.hid (SA.out.below hb)
  replace SB := Lib.hid (SB.out.below hb)
  replace SM := Lib.hid (SM.out.below hb)
  clear s1a s1b hb
  go_wp2_with fail
  refine (div_sm S0.out S1a.out S1b.out).mono ?_
  rintro e z4 ⟨rfl, hb⟩
  have BS5 := Lib.hid ((BB.out.on hb).alloc TF #[.slice none 0 0, .slice none 0 0])
  replace SA := Lib.hid ((SA.out.below hb).below ((Below.refl _ _).alloc (Nat.le_refl _) (.cells #[.slice none 0 0, .slice none 0 0] TF)))
  replace SB := Lib.hid ((SB.out.below hb).below ((Below.refl _ _).alloc (Nat.le_refl _) (.cells #[.slice none 0 0, .slice none 0 0] TF)))
  replace SM := Lib.hid ((SM.out.below hb).below ((Below.refl _ _).alloc (Nat.le_refl _) (.cells #[.slice none 0 0, .slice none 0 0] TF)))
  clear hb S0 BA BB S1a S1b
  go_wp2_with fail
  refine (sm_any _ (x := 2) (y := 3) (by omega) (by omega) (by omega) (by omega)).mono ?_
  rintro e u5 ⟨D0, c0, E0, rfl, s0, hb⟩
  have BA := Lib.hid (BS5.out.on hb)
  have S0 := Lib.hid s0
  replace SA := Lib.hid (SA.out.below hb)
  replace SB := Lib.hid (SB.out.below hb)
  replace SM := Lib.hid (SM.out.below hb)
  clear s0 hb
  go_wp2_with fail
  refine (dec_sm S0.out).mono ?_
  rintro e v5 ⟨rfl, hb⟩
  have BB := Lib.hid (BA.out.on hb)
  replace SA := Lib.hid (SA.out.below hb)
  replace SB := Lib.hid (SB.out.below hb)
  replace SM := Lib.hid (SM.out.below hb)
  clear hb S0 BA
  go_wp2_with fail
  refine (of_sz _).mono ?_
  rintro e z5 ⟨rfl, hb⟩
  have BS6 := Lib.hid ((BB.out.on hb).alloc TF #[.slice none 0 0, .slice none 0 0])
  replace SA := Lib.hid ((SA.out.below hb).below ((Below.refl _ _).alloc (Nat.le_refl _) (.cells #[.slice none 0 0, .slice none 0 0] TF)))
  replace SB := Lib.hid ((SB.out.below hb).below ((Below.refl _ _).alloc (Nat.le_refl _) (.cells #[.slice none 0 0, .slice none 0 0] TF)))
  replace SM := Lib.hid ((SM.out.below hb).below ((Below.refl _ _).alloc (Nat.le_refl _) (.cells #[.slice none 0 0, .slice none 0 0] TF)))
  clear hb BB BS1 BS2 BS3 BS4 BS5
  go_wp2_with fail
  obtain ⟨W, hW⟩ : ∃ W, W = z5.alloc (.cells #[.slice none 0 0, .slice none 0 0] TF) := ⟨_, rfl⟩
  change Code.wp _ _ _ _ (z5.alloc (.cells #[.slice none 0 0, .slice none 0 0] TF))
  rw [← hW] at BS6 SA SB SM ⊢
  obtain ⟨p1, hp1⟩ : ∃ p, p = w1.heap.size := ⟨_, rfl⟩
  obtain ⟨p3, hp3⟩ : ∃ p, p = z1.heap.size := ⟨_, rfl⟩
  obtain ⟨p7, hp7⟩ : ∃ p, p = z3.heap.size := ⟨_, rfl⟩
  rw [← hp1, ← hp3, ← hp7] at BS6 ⊢
  clear hW hp1 hp3 hp7
  have HALL : Hid (∀ w', Below W.heap.size W w' → w'.cell? ⟨p1, 0, none⟩ = some (.slice Da 1 ca) ∧ w'.cell? ⟨p1, 1, none⟩ = some (.slice Ea 1 ca') ∧ w'.cell? ⟨p3, 0, none⟩ = some (.slice Db 1 cb) ∧ w'.cell? ⟨p3, 1, none⟩ = some (.slice Eb 1 cb') ∧ w'.cell? ⟨p7, 0, none⟩ = some (.slice Dm 1 cm) ∧ w'.cell? ⟨p7, 1, none⟩ = some (.slice Em 1 cm') ∧ Below W.heap.size W w') := Lib.hid fun w' hw => by
    have b := BS6.out.on hw
    have k1 := (b.get (.tail _ (.tail _ (.tail _ (.tail _ (.tail _ (.head _))))))).2.2
    have k3 := (b.get (.tail _ (.tail _ (.tail _ (.tail _ (.head _)))))).2.2
    have k7 := (b.get (.tail _ (.tail _ (.head _)))).2.2
    exact ⟨k1.cell 0, k1.cell 1, k3.cell 0, k3.cell 1, k7.cell 0, k7.cell 1, hw⟩
  have HB6 := Lib.hid BS6.out.below
  have A0 : Below W.heap.size W W.drew := (Below.refl _ _).drew
  have HO32 : Hid (∀ w', Below W.heap.size W w' → Calls Try.prog 34 #[.int .u32 3, .int .u32 2] w' fun e w'' => ∃ D c E, e = .returned (.agg #[.slice D 1 c, .slice E 1 1]) ∧ Sm w'' D E 3 2 ∧ Below w'.heap.size w' w'' ∧ Below W.heap.size W w'') := Lib.hid fun w' hw => (sm_any w' (x := 3) (y := 2) (by omega) (by omega) (by omega) (by omega)).mono fun e w'' ⟨D, c, E, h1, h2, h3⟩ => ⟨D, c, E, h1, h2, h3, Below.on hw h3⟩
  have HO415 : Hid (∀ w', Below W.heap.size W w' → Calls Try.prog 34 #[.int .u32 4, .int .u32 15] w' fun e w'' => ∃ D c E, e = .returned (.agg #[.slice D 1 c, .slice E 1 1]) ∧ Sm w'' D E 4 15 ∧ Below w'.heap.size w' w'' ∧ Below W.heap.size W w'') := Lib.hid fun w' hw => (sm_any w' (x := 4) (y := 15) (by omega) (by omega) (by omega) (by omega)).mono fun e w'' ⟨D, c, E, h1, h2, h3⟩ => ⟨D, c, E, h1, h2, h3, Below.on hw h3⟩
  have HO12 : Hid (∀ w', Below W.heap.size W w' → Calls Try.prog 34 #[.int .u32 1, .int .u32 2] w' fun e w'' => ∃ D c E, e = .returned (.agg #[.slice D 1 c, .slice E 1 1]) ∧ Sm w'' D E 1 2 ∧ Below w'.heap.size w' w'' ∧ Below W.heap.size W w'') := Lib.hid fun w' hw => (sm_any w' (x := 1) (y := 2) (by omega) (by omega) (by omega) (by omega)).mono fun e w'' ⟨D, c, E, h1, h2, h3⟩ => ⟨D, c, E, h1, h2, h3, Below.on hw h3⟩
  have HO24 : Hid (∀ w', Below W.heap.size W w' → Calls Try.prog 34 #[.int .u32 2, .int .u32 4] w' fun e w'' => ∃ D c E, e = .returned (.agg #[.slice D 1 c, .slice E 1 1]) ∧ Sm w'' D E 2 4 ∧ Below w'.heap.size w' w'' ∧ Below W.heap.size W w'') := Lib.hid fun w' hw => (sm_any w' (x := 2) (y := 4) (by omega) (by omega) (by omega) (by omega)).mono fun e w'' ⟨D, c, E, h1, h2, h3⟩ => ⟨D, c, E, h1, h2, h3, Below.on hw h3⟩
  have HO23 : Hid (∀ w', Below W.heap.size W w' → Calls Try.prog 34 #[.int .u32 2, .int .u32 3] w' fun e w'' => ∃ D c E, e = .returned (.agg #[.slice D 1 c, .slice E 1 1]) ∧ Sm w'' D E 2 3 ∧ Below w'.heap.size w' w'' ∧ Below W.heap.size W w'') := Lib.hid fun w' hw => (sm_any w' (x := 2) (y := 3) (by omega) (by omega) (by omega) (by omega)).mono fun e w'' ⟨D, c, E, h1, h2, h3⟩ => ⟨D, c, E, h1, h2, h3, Below.on hw h3⟩
  have HQa : Hid (∀ w' D c E, Sm w' D E 3 2 → Below W.heap.size W w' → Calls Try.prog 16 #[.agg #[.slice Da 1 ca, .slice Ea 1 ca'], .agg #[.slice D 1 c, .slice E 1 1]] w' fun e w'' => e = .returned (.bool true) ∧ Below W.heap.size W w'') := Lib.hid fun w' D c E s hw => (same_sm (SA.out.below hw) s (by decide)).mono fun e w'' ⟨h1, h2⟩ => ⟨h1, Below.on hw h2⟩
  have HQb : Hid (∀ w' D c E, Sm w' D E 4 15 → Below W.heap.size W w' → Calls Try.prog 16 #[.agg #[.slice Db 1 cb, .slice Eb 1 cb'], .agg #[.slice D 1 c, .slice E 1 1]] w' fun e w'' => e = .returned (.bool true) ∧ Below W.heap.size W w'') := Lib.hid fun w' D c E s hw => (same_sm (SB.out.below hw) s (by decide)).mono fun e w'' ⟨h1, h2⟩ => ⟨h1, Below.on hw h2⟩
  have HQm : Hid (∀ w' D c E, Sm w' D E 1 2 → Below W.heap.size W w' → Calls Try.prog 16 #[.agg #[.slice Dm 1 cm, .slice Em 1 cm'], .agg #[.slice D 1 c, .slice E 1 1]] w' fun e w'' => e = .returned (.bool true) ∧ Below W.heap.size W w'') := Lib.hid fun w' D c E s hw => (same_sm (SM.out.below hw) s (by decide)).mono fun e w'' ⟨h1, h2⟩ => ⟨h1, Below.on hw h2⟩
  have HV12 : Hid (∀ w' D c E, Sm w' D E 1 2 → Below W.heap.size W w' → Calls Try.prog 19 #[.agg #[.slice D 1 c, .slice E 1 1]] w' fun e w'' => e = .returned (.bool true) ∧ Below W.heap.size W w'') := Lib.hid fun w' D c E s hw => (valid_sm s (by decide)).mono fun e w'' ⟨h1, h2⟩ => ⟨h1, Below.on hw h2⟩
  have HV24 : Hid (∀ w' D c E, Sm w' D E 2 4 → Below W.heap.size W w' → Calls Try.prog 19 #[.agg #[.slice D 1 c, .slice E 1 1]] w' fun e w'' => e = .returned (.bool false) ∧ Below W.heap.size W w'') := Lib.hid fun w' D c E s hw => (valid_sm s (by decide)).mono fun e w'' ⟨h1, h2⟩ => ⟨h1, Below.on hw h2⟩
  have HCM : Hid (∀ w' D c E D' c' E', Sm w' D E 1 2 → Sm w' D' E' 2 3 → Below W.heap.size W w' → Calls Try.prog 22 #[.agg #[.slice D 1 c, .slice E 1 1], .agg #[.slice D' 1 c', .slice E' 1 1]] w' fun e w'' => e = .returned (.int .i64 (-1)) ∧ Below W.heap.size W w'') := Lib.hid fun w' D c E D' c' E' s s' hw => (cmp_sm s s' (by decide)).mono fun e w'' ⟨h1, h2⟩ => ⟨h1, Below.on hw h2⟩
  have e6 : (({ data := #[48, 46, 54, 54, 54, 54] } : ByteArray).toList == ({ data := #[48, 46, 54, 54, 54, 54] } : ByteArray).toList) = true := by simp
  go_region_held3 (fun w' => w'.cell? ⟨p1, 0, none⟩ = some (.slice Da 1 ca) ∧ w'.cell? ⟨p1, 1, none⟩ = some (.slice Ea 1 ca') ∧ w'.cell? ⟨p3, 0, none⟩ = some (.slice Db 1 cb) ∧ w'.cell? ⟨p3, 1, none⟩ = some (.slice Eb 1 cb') ∧ w'.cell? ⟨p7, 0, none⟩ = some (.slice Dm 1 cm) ∧ w'.cell? ⟨p7, 1, none⟩ = some (.slice Em 1 cm') ∧ Below W.heap.size W w')
    (first
      | exact HALL.out _ (by assumption))
    (first
      | (go_at_call 34; (with_reducible refine (HO32.out _ ?_).mono ?_); (assumption); rintro e5 w5 ⟨D5, c5, E5, rfl, s5, b5, t5⟩)
      | (go_at_call 34; (with_reducible refine (HO415.out _ ?_).mono ?_); (assumption); rintro e5 w5 ⟨D5, c5, E5, rfl, s5, b5, t5⟩)
      | (go_at_call 34; (with_reducible refine (HO12.out _ ?_).mono ?_); (assumption); rintro e5 w5 ⟨D5, c5, E5, rfl, s5, b5, t5⟩)
      | (go_at_call 34; (with_reducible refine (HO24.out _ ?_).mono ?_); (assumption); rintro e5 w5 ⟨D5, c5, E5, rfl, s5, b5, t5⟩)
      | (go_at_call 34; (with_reducible refine (HO23.out _ ?_).mono ?_); (assumption); rintro e6 w6 ⟨D6, c6, E6, rfl, s6, b6, t6⟩; have s56 := s5.below b6)
      | (go_at_call 16; (with_reducible refine (HQa.out _ _ _ _ ?_ ?_).mono ?_); (exact s5); (assumption); rintro e7 w7 ⟨rfl, t7⟩)
      | (go_at_call 16; (with_reducible refine (HQb.out _ _ _ _ ?_ ?_).mono ?_); (exact s5); (assumption); rintro e7 w7 ⟨rfl, t7⟩)
      | (go_at_call 16; (with_reducible refine (HQm.out _ _ _ _ ?_ ?_).mono ?_); (exact s5); (assumption); rintro e7 w7 ⟨rfl, t7⟩)
      | (go_at_call 19; (with_reducible refine (HV12.out _ _ _ _ ?_ ?_).mono ?_); (exact s5); (assumption); rintro e7 w7 ⟨rfl, t7⟩)
      | (go_at_call 19; (with_reducible refine (HV24.out _ _ _ _ ?_ ?_).mono ?_); (exact s5); (assumption); rintro e7 w7 ⟨rfl, t7⟩)
      | (go_at_call 22; (with_reducible refine (HCM.out _ _ _ _ _ _ _ ?_ ?_ ?_).mono ?_); (exact s56); (exact s6); (assumption); rintro e8 w8 ⟨rfl, t8⟩)
      | fail)
  all_goals
    have HB := Lib.hid (Below.on HB6.out t8)
    clear t8 A0
    go_wp2
    go_ret
    exact ⟨rfl, HB.out⟩
end Fr
end Go.Proofs.Yteclghokkdkolaa
