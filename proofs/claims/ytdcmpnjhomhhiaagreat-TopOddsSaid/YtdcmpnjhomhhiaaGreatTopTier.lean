/- The walks of drum.Check, match.check, match.hits, match.Tier on a tiny game. -/
import Derived.Test.YtdcmpnjhomhhiaaGreatTopLook
import Derived.BigQuiet
set_option linter.unusedVariables false
namespace Go.Proofs.YtdcmpnjhomhhiaaGreat
open Go.RowKit Fr Fa
namespace Tp
/-- The first of the tiers below k that is met. -/
def first (P Q : Nat → Nat) (a d : Nat) : Nat → Option Nat
  | 0 => none
  | k + 1 => match first P Q a d k with
    | some i => some i
    | none => if P k ≤ a ∧ Q k ≤ d then some k else none
theorem first_at {P Q : Nat → Nat} {a d k k' : Nat} (h : first P Q a d k = some k') : ∀ {n}, k ≤ n → first P Q a d n = some k'
  | 0, hn => by obtain rfl : k = 0 := by omega
                exact h
  | n + 1, hn => by
    rcases Nat.lt_or_ge n k with h1 | h1
    · obtain rfl : k = n + 1 := by omega
      exact h
    · rw [first, first_at h h1]
theorem first_yes {P Q : Nat → Nat} {a d k T : Nat} (h : first P Q a d k = none) (hp : P k ≤ a ∧ Q k ≤ d) (hk : k < T) : first P Q a d T = some k :=
  first_at (k := k + 1) (by rw [first, h]; exact if_pos hp) hk
theorem first_no {P Q : Nat → Nat} {a d k : Nat} (h : first P Q a d k = none) (hp : ¬ (P k ≤ a ∧ Q k ≤ d)) : first P Q a d (k + 1) = none := by
  rw [first, h]; exact if_neg hp
/-- The number of a tier, -1: none. -/
def tno : Option Nat → Int
  | none => -1
  | some i => i
set_option maxHeartbeats 8000000 in
set_option maxRecDepth 100000 in
theorem dcheck_tg (w : World) {m n b c x : Nat} {D : Option Addr} {T k : Nat} {P Q : Nat → Nat} {E2 F2 X : Option Addr} {u2 v2 y : Nat} {f2 g2 h : Nat → Nat} (hG : Gs m n b c x T k P Q) (hD : Cells w D (T * 6) (Six P Q)) (hE2 : Cells w E2 m (Dg f2)) (hF2 : Cells w F2 b (Dg g2)) (hX : Cells w X x (Dg h)) (hf2 : Asc f2 m n) (hg2 : Asc g2 b c) (hh : Asc h x n) (hdj : ∀ k, k < x → hs f2 (h k) m = false) : Calls Tryz.prog 42 #[.agg (tg m n b c x D T k), .agg #[.slice E2 m u2, .slice F2 b v2, .slice X x y, .int .i64 0, .string ⟨#[]⟩]] w fun e w' => e = .returned (.int .i64 0) ∧ Below w.heap.size w w' := by
  have HK := Lib.hid (fun (w : World) (hD : Cells w D (T * 6) (Six P Q)) => check_gs w hG hD)
  have HNU := Lib.hid (fun (w : World) (hD : Cells w D (T * 6) (Six P Q)) (hE2 : Cells w E2 m (Dg f2)) (hF2 : Cells w F2 b (Dg g2)) (hX : Cells w X x (Dg h)) => numbers_tg (u := u2) (v := v2) (y := y) w hG hD hE2 hF2 hX hf2 hg2 hh hdj)
  have HD := Lib.hid hD
  have HE2 := Lib.hid hE2
  have HF2 := Lib.hid hF2
  have HX := Lib.hid hX
  unfold tg at HK HNU
  clear hG hD hE2 hF2 hX hf2 hg2 hh hdj
  have BS0 := Lib.hid (box2 w TG TR (tg m n b c x D T k) #[.slice E2 m u2, .slice F2 b v2, .slice X x y, .int .i64 0, .string ⟨#[]⟩])
  unfold tg at BS0 ⊢
  go_enter Tryz.func42, Tryz.ntmps42
  go_upto_region 1 with (fail)
  obtain ⟨wa, hwa⟩ : ∃ wa, wa = ((w.alloc (.cells #[.string lotto, .int .i64 1, .int .i64 200, .int .i64 (m : Int), .int .i64 (n : Int), .int .i64 (b : Int), .int .i64 (c : Int), .int .i64 (x : Int), .int .i64 4, .int .i64 (m : Int), .int .i64 32, .int .i64 1230, .int .i64 30, .int .i64 15, .int .i64 90, .int .i64 5000, .int .i64 0, .int .i64 1, .int .i64 0, .int .i64 0, .slice none 0 0, .slice D T k] TG)).alloc (.cells #[.slice E2 m u2, .slice F2 b v2, .slice X x y, .int .i64 0, .string ⟨#[]⟩] TR)) := ⟨_, rfl⟩
  change Code.wp _ _ _ _ ((w.alloc (.cells #[.string lotto, .int .i64 1, .int .i64 200, .int .i64 (m : Int), .int .i64 (n : Int), .int .i64 (b : Int), .int .i64 (c : Int), .int .i64 (x : Int), .int .i64 4, .int .i64 (m : Int), .int .i64 32, .int .i64 1230, .int .i64 30, .int .i64 15, .int .i64 90, .int .i64 5000, .int .i64 0, .int .i64 1, .int .i64 0, .int .i64 0, .slice none 0 0, .slice D T k] TG)).alloc (.cells #[.slice E2 m u2, .slice F2 b v2, .slice X x y, .int .i64 0, .string ⟨#[]⟩] TR))
  rw [← hwa] at BS0 ⊢
  have HB := Lib.hid BS0.out.below
  obtain ⟨_, lr, kr⟩ := BS0.out.get (.head _)
  obtain ⟨rb, hrb⟩ : ∃ g, g = w.heap.size + 1 := ⟨_, rfl⟩
  rw [← hrb] at kr lr
  rw [show (Value.pointer (some ⟨w.heap.size + 1, 0, none⟩)) = .pointer (some ⟨rb, 0, none⟩) by rw [hrb]]
  have Sr := Lib.hid (show w.heap.size ≤ rb by omega)
  have Kr := Lib.hid kr
  clear kr lr
  obtain ⟨_, lg, kg⟩ := BS0.out.get (.tail _ (.head _))
  obtain ⟨gb, hgb⟩ : ∃ g, g = w.heap.size := ⟨_, rfl⟩
  rw [← hgb] at kg lg
  rw [show (Value.pointer (some ⟨w.heap.size, 0, none⟩)) = .pointer (some ⟨gb, 0, none⟩) by rw [hgb]]
  have Sg := Lib.hid (show w.heap.size ≤ gb by omega)
  have Kg := Lib.hid kg
  clear kg lg
  clear hwa BS0 hgb hrb
  replace HD := Lib.hid (HD.out.below HB.out)
  replace HE2 := Lib.hid (HE2.out.below HB.out)
  replace HF2 := Lib.hid (HF2.out.below HB.out)
  replace HX := Lib.hid (HX.out.below HB.out)
  go_wp2_with (refine wpList_load_row rfl TG _ rfl gb rfl TG _ (0, 0) _ Kg.out Tryz.underlying27 rfl (by kernel_rfl) ?_)
  go_wp2_with fail
  with_reducible refine (HK.out _ HD.out).mono ?_
  rintro e w1 ⟨rfl, hb1⟩
  replace HB := Lib.hid (Below.on HB.out hb1)
  replace Kg := Lib.hid (Kg.out.keep hb1)
  replace Kr := Lib.hid (Kr.out.keep hb1)
  replace HD := Lib.hid (HD.out.below hb1)
  replace HE2 := Lib.hid (HE2.out.below hb1)
  replace HF2 := Lib.hid (HF2.out.below hb1)
  replace HX := Lib.hid (HX.out.below hb1)
  clear hb1
  have r0 : w1.cell? ⟨rb, 0, none⟩ = some (.slice E2 m u2) := Kr.out.cell 0
  have r1 : w1.cell? ⟨rb, 1, none⟩ = some (.slice F2 b v2) := Kr.out.cell 1
  have r2 : w1.cell? ⟨rb, 2, none⟩ = some (.slice X x y) := Kr.out.cell 2
  have r3 : w1.cell? ⟨rb, 3, none⟩ = some (.int .i64 0) := Kr.out.cell 3
  have r4 : w1.cell? ⟨rb, 4, none⟩ = some (.string ⟨#[]⟩) := Kr.out.cell 4
  go_wp2_with (refine wpList_load_row rfl TG _ rfl gb rfl TG _ (0, 0) _ Kg.out Tryz.underlying27 rfl (by kernel_rfl) ?_)
  go_wp2_with fail
  with_reducible refine (HNU.out _ HD.out HE2.out HF2.out HX.out).mono ?_
  rintro e w2 ⟨rfl, hb1⟩
  clear r0 r1 r2 r3 r4
  replace HB := Lib.hid (Below.on HB.out hb1)
  replace Kr := Lib.hid (Kr.out.keep hb1)
  clear hb1
  have r0 : w2.cell? ⟨rb, 0, none⟩ = some (.slice E2 m u2) := Kr.out.cell 0
  have r1 : w2.cell? ⟨rb, 1, none⟩ = some (.slice F2 b v2) := Kr.out.cell 1
  have r2 : w2.cell? ⟨rb, 2, none⟩ = some (.slice X x y) := Kr.out.cell 2
  have r3 : w2.cell? ⟨rb, 3, none⟩ = some (.int .i64 0) := Kr.out.cell 3
  have r4 : w2.cell? ⟨rb, 4, none⟩ = some (.string ⟨#[]⟩) := Kr.out.cell 4
  go_wp2
  go_ret
  exact ⟨rfl, HB.out⟩
set_option maxHeartbeats 8000000 in
set_option maxRecDepth 100000 in
theorem mtcheck_tg (w : World) {m n b c x : Nat} {D : Option Addr} {T k : Nat} {P Q : Nat → Nat} {E F : Option Addr} {u v : Nat} {f g : Nat → Nat} {E2 F2 X : Option Addr} {u2 v2 y : Nat} {f2 g2 h : Nat → Nat} (hG : Gs m n b c x T k P Q) (hD : Cells w D (T * 6) (Six P Q)) (hu : m ≤ u) (hv : b ≤ v) (hE : Cells w E m (Dg f)) (hF : Cells w F b (Dg g)) (hf : Asc f m n) (hg : Asc g b c) (hE2 : Cells w E2 m (Dg f2)) (hF2 : Cells w F2 b (Dg g2)) (hX : Cells w X x (Dg h)) (hf2 : Asc f2 m n) (hg2 : Asc g2 b c) (hh : Asc h x n) (hdj : ∀ k, k < x → hs f2 (h k) m = false) : Calls Tryz.prog 21 #[.agg (tg m n b c x D T k), .agg #[.slice E m u, .slice F b v], .agg #[.slice E2 m u2, .slice F2 b v2, .slice X x y, .int .i64 0, .string ⟨#[]⟩]] w fun e w' => e = .returned (.int .i64 0) ∧ Below w.heap.size w w' := by
  have HK := Lib.hid (fun (w : World) (hD : Cells w D (T * 6) (Six P Q)) => check_gs w hG hD)
  have HMC := Lib.hid (fun (w : World) (hD : Cells w D (T * 6) (Six P Q)) (hE : Cells w E m (Dg f)) (hF : Cells w F b (Dg g)) => mcheck_tg w hG hD hu hv hE hF hf hg)
  have HDC := Lib.hid (fun (w : World) (hD : Cells w D (T * 6) (Six P Q)) (hE2 : Cells w E2 m (Dg f2)) (hF2 : Cells w F2 b (Dg g2)) (hX : Cells w X x (Dg h)) => dcheck_tg (u2 := u2) (v2 := v2) (y := y) w hG hD hE2 hF2 hX hf2 hg2 hh hdj)
  have HD := Lib.hid hD
  have HE := Lib.hid hE
  have HF := Lib.hid hF
  have HE2 := Lib.hid hE2
  have HF2 := Lib.hid hF2
  have HX := Lib.hid hX
  unfold tg at HK HMC HDC
  clear hG hD hE2 hF2 hX hf2 hg2 hh hdj hE hF hf hg hu hv
  have BS0 := Lib.hid (box3 w TG TL TR (tg m n b c x D T k) #[.slice E m u, .slice F b v] #[.slice E2 m u2, .slice F2 b v2, .slice X x y, .int .i64 0, .string ⟨#[]⟩])
  unfold tg at BS0 ⊢
  go_enter Tryz.func21, Tryz.ntmps21
  go_upto_region 1 with (fail)
  obtain ⟨wa, hwa⟩ : ∃ wa, wa = (((w.alloc (.cells #[.string lotto, .int .i64 1, .int .i64 200, .int .i64 (m : Int), .int .i64 (n : Int), .int .i64 (b : Int), .int .i64 (c : Int), .int .i64 (x : Int), .int .i64 4, .int .i64 (m : Int), .int .i64 32, .int .i64 1230, .int .i64 30, .int .i64 15, .int .i64 90, .int .i64 5000, .int .i64 0, .int .i64 1, .int .i64 0, .int .i64 0, .slice none 0 0, .slice D T k] TG)).alloc (.cells #[.slice E m u, .slice F b v] TL)).alloc (.cells #[.slice E2 m u2, .slice F2 b v2, .slice X x y, .int .i64 0, .string ⟨#[]⟩] TR)) := ⟨_, rfl⟩
  change Code.wp _ _ _ _ (((w.alloc (.cells #[.string lotto, .int .i64 1, .int .i64 200, .int .i64 (m : Int), .int .i64 (n : Int), .int .i64 (b : Int), .int .i64 (c : Int), .int .i64 (x : Int), .int .i64 4, .int .i64 (m : Int), .int .i64 32, .int .i64 1230, .int .i64 30, .int .i64 15, .int .i64 90, .int .i64 5000, .int .i64 0, .int .i64 1, .int .i64 0, .int .i64 0, .slice none 0 0, .slice D T k] TG)).alloc (.cells #[.slice E m u, .slice F b v] TL)).alloc (.cells #[.slice E2 m u2, .slice F2 b v2, .slice X x y, .int .i64 0, .string ⟨#[]⟩] TR))
  rw [← hwa] at BS0 ⊢
  have HB := Lib.hid BS0.out.below
  obtain ⟨_, lr, kr⟩ := BS0.out.get (.head _)
  obtain ⟨rb, hrb⟩ : ∃ g, g = w.heap.size + 1 + 1 := ⟨_, rfl⟩
  rw [← hrb] at kr lr
  rw [show (Value.pointer (some ⟨w.heap.size + 1 + 1, 0, none⟩)) = .pointer (some ⟨rb, 0, none⟩) by rw [hrb]]
  have Sr := Lib.hid (show w.heap.size ≤ rb by omega)
  have Kr := Lib.hid kr
  clear kr lr
  obtain ⟨_, ll, kl⟩ := BS0.out.get (.tail _ (.head _))
  obtain ⟨lb, hlb⟩ : ∃ g, g = w.heap.size + 1 := ⟨_, rfl⟩
  rw [← hlb] at kl ll
  rw [show (Value.pointer (some ⟨w.heap.size + 1, 0, none⟩)) = .pointer (some ⟨lb, 0, none⟩) by rw [hlb]]
  have Sl := Lib.hid (show w.heap.size ≤ lb by omega)
  have Kl := Lib.hid kl
  clear kl ll
  obtain ⟨_, lg, kg⟩ := BS0.out.get (.tail _ (.tail _ (.head _)))
  obtain ⟨gb, hgb⟩ : ∃ g, g = w.heap.size := ⟨_, rfl⟩
  rw [← hgb] at kg lg
  rw [show (Value.pointer (some ⟨w.heap.size, 0, none⟩)) = .pointer (some ⟨gb, 0, none⟩) by rw [hgb]]
  have Sg := Lib.hid (show w.heap.size ≤ gb by omega)
  have Kg := Lib.hid kg
  clear kg lg
  clear hwa BS0 hgb hlb hrb
  replace HD := Lib.hid (HD.out.below HB.out)
  replace HE := Lib.hid (HE.out.below HB.out)
  replace HF := Lib.hid (HF.out.below HB.out)
  replace HE2 := Lib.hid (HE2.out.below HB.out)
  replace HF2 := Lib.hid (HF2.out.below HB.out)
  replace HX := Lib.hid (HX.out.below HB.out)
  go_wp2_with (refine wpList_load_row rfl TG _ rfl gb rfl TG _ (0, 0) _ Kg.out Tryz.underlying27 rfl (by kernel_rfl) ?_)
  go_wp2_with fail
  with_reducible refine (HK.out _ HD.out).mono ?_
  rintro e w1 ⟨rfl, hb1⟩
  replace HB := Lib.hid (Below.on HB.out hb1)
  replace Kg := Lib.hid (Kg.out.keep hb1)
  replace Kl := Lib.hid (Kl.out.keep hb1)
  replace Kr := Lib.hid (Kr.out.keep hb1)
  replace HD := Lib.hid (HD.out.below hb1)
  replace HE := Lib.hid (HE.out.below hb1)
  replace HF := Lib.hid (HF.out.below hb1)
  replace HE2 := Lib.hid (HE2.out.below hb1)
  replace HF2 := Lib.hid (HF2.out.below hb1)
  replace HX := Lib.hid (HX.out.below hb1)
  clear hb1
  have l0 : w1.cell? ⟨lb, 0, none⟩ = some (.slice E m u) := Kl.out.cell 0
  have l1 : w1.cell? ⟨lb, 1, none⟩ = some (.slice F b v) := Kl.out.cell 1
  go_wp2_with (refine wpList_load_row rfl TG _ rfl gb rfl TG _ (0, 0) _ Kg.out Tryz.underlying27 rfl (by kernel_rfl) ?_)
  go_wp2_with fail
  with_reducible refine (HMC.out _ HD.out HE.out HF.out).mono ?_
  rintro e w2 ⟨rfl, hb1⟩
  clear l0 l1
  replace HB := Lib.hid (Below.on HB.out hb1)
  replace Kg := Lib.hid (Kg.out.keep hb1)
  replace Kr := Lib.hid (Kr.out.keep hb1)
  replace HD := Lib.hid (HD.out.below hb1)
  replace HE2 := Lib.hid (HE2.out.below hb1)
  replace HF2 := Lib.hid (HF2.out.below hb1)
  replace HX := Lib.hid (HX.out.below hb1)
  clear hb1
  have r0 : w2.cell? ⟨rb, 0, none⟩ = some (.slice E2 m u2) := Kr.out.cell 0
  have r1 : w2.cell? ⟨rb, 1, none⟩ = some (.slice F2 b v2) := Kr.out.cell 1
  have r2 : w2.cell? ⟨rb, 2, none⟩ = some (.slice X x y) := Kr.out.cell 2
  have r3 : w2.cell? ⟨rb, 3, none⟩ = some (.int .i64 0) := Kr.out.cell 3
  have r4 : w2.cell? ⟨rb, 4, none⟩ = some (.string ⟨#[]⟩) := Kr.out.cell 4
  go_wp2_with (refine wpList_load_row rfl TG _ rfl gb rfl TG _ (0, 0) _ Kg.out Tryz.underlying27 rfl (by kernel_rfl) ?_)
  go_wp2_with fail
  with_reducible refine (HDC.out _ HD.out HE2.out HF2.out HX.out).mono ?_
  rintro e w3 ⟨rfl, hb1⟩
  clear r0 r1 r2 r3 r4
  replace HB := Lib.hid (Below.on HB.out hb1)
  clear hb1
  go_wp2
  go_ret
  exact ⟨rfl, HB.out⟩
set_option maxHeartbeats 8000000 in
set_option maxRecDepth 100000 in
theorem hits_tg (w : World) {m n b c x : Nat} {D : Option Addr} {T k : Nat} {P Q : Nat → Nat} {E F : Option Addr} {u v : Nat} {f g : Nat → Nat} {E2 F2 X : Option Addr} {u2 v2 y : Nat} {f2 g2 h : Nat → Nat} (hm : m ≤ 1000) (hb : b ≤ 1000) (hx : x ≤ 1000) (hE : Cells w E m (Dg f)) (hF : Cells w F b (Dg g)) (hE2 : Cells w E2 m (Dg f2)) (hF2 : Cells w F2 b (Dg g2)) (hX : Cells w X x (Dg h)) : Calls Tryz.prog 22 #[.agg (tg m n b c x D T k), .agg #[.slice E m u, .slice F b v], .agg #[.slice E2 m u2, .slice F2 b v2, .slice X x y, .int .i64 0, .string ⟨#[]⟩]] w fun e w' => e = .returned (.tuple #[.int .i64 ((cm f f2 m m : Nat) : Int), .int .i64 ((cm g g2 b b : Nat) : Int), .int .i64 ((cm f h x m : Nat) : Int)]) ∧ Below w.heap.size w w' := by
  have HC1 := Lib.hid (fun (w : World) (hE : Cells w E m (Dg f)) (hE2 : Cells w E2 m (Dg f2)) => common_any (c := u) (d := u2) w hm hm hE hE2)
  have HC2 := Lib.hid (fun (w : World) (hF : Cells w F b (Dg g)) (hF2 : Cells w F2 b (Dg g2)) => common_any (c := v) (d := v2) w hb hb hF hF2)
  have HC3 := Lib.hid (fun (w : World) (hE : Cells w E m (Dg f)) (hX : Cells w X x (Dg h)) => common_any (c := u) (d := y) w hm hx hE hX)
  have HE := Lib.hid hE
  have HF := Lib.hid hF
  have HE2 := Lib.hid hE2
  have HF2 := Lib.hid hF2
  have HX := Lib.hid hX
  clear hm hb hx hE hF hE2 hF2 hX
  obtain ⟨c1, hc1⟩ : ∃ z, z = cm f f2 m m := ⟨_, rfl⟩
  obtain ⟨c2, hc2⟩ : ∃ z, z = cm g g2 b b := ⟨_, rfl⟩
  obtain ⟨c3, hc3⟩ : ∃ z, z = cm f h x m := ⟨_, rfl⟩
  rw [← hc1] at HC1 ⊢
  rw [← hc2] at HC2 ⊢
  rw [← hc3] at HC3 ⊢
  clear hc1 hc2 hc3
  have BS0 := Lib.hid (box3 w TG TL TR (tg m n b c x D T k) #[.slice E m u, .slice F b v] #[.slice E2 m u2, .slice F2 b v2, .slice X x y, .int .i64 0, .string ⟨#[]⟩])
  unfold tg at BS0 ⊢
  go_enter Tryz.func22, Tryz.ntmps22
  go_upto_region 1 with (fail)
  obtain ⟨wa, hwa⟩ : ∃ wa, wa = (((w.alloc (.cells #[.string lotto, .int .i64 1, .int .i64 200, .int .i64 (m : Int), .int .i64 (n : Int), .int .i64 (b : Int), .int .i64 (c : Int), .int .i64 (x : Int), .int .i64 4, .int .i64 (m : Int), .int .i64 32, .int .i64 1230, .int .i64 30, .int .i64 15, .int .i64 90, .int .i64 5000, .int .i64 0, .int .i64 1, .int .i64 0, .int .i64 0, .slice none 0 0, .slice D T k] TG)).alloc (.cells #[.slice E m u, .slice F b v] TL)).alloc (.cells #[.slice E2 m u2, .slice F2 b v2, .slice X x y, .int .i64 0, .string ⟨#[]⟩] TR)) := ⟨_, rfl⟩
  change Code.wp _ _ _ _ (((w.alloc (.cells #[.string lotto, .int .i64 1, .int .i64 200, .int .i64 (m : Int), .int .i64 (n : Int), .int .i64 (b : Int), .int .i64 (c : Int), .int .i64 (x : Int), .int .i64 4, .int .i64 (m : Int), .int .i64 32, .int .i64 1230, .int .i64 30, .int .i64 15, .int .i64 90, .int .i64 5000, .int .i64 0, .int .i64 1, .int .i64 0, .int .i64 0, .slice none 0 0, .slice D T k] TG)).alloc (.cells #[.slice E m u, .slice F b v] TL)).alloc (.cells #[.slice E2 m u2, .slice F2 b v2, .slice X x y, .int .i64 0, .string ⟨#[]⟩] TR))
  rw [← hwa] at BS0 ⊢
  have HB := Lib.hid BS0.out.below
  obtain ⟨_, lr, kr⟩ := BS0.out.get (.head _)
  obtain ⟨rb, hrb⟩ : ∃ g, g = w.heap.size + 1 + 1 := ⟨_, rfl⟩
  rw [← hrb] at kr lr
  rw [show (Value.pointer (some ⟨w.heap.size + 1 + 1, 0, none⟩)) = .pointer (some ⟨rb, 0, none⟩) by rw [hrb]]
  have Sr := Lib.hid (show w.heap.size ≤ rb by omega)
  have Kr := Lib.hid kr
  clear kr lr
  obtain ⟨_, ll, kl⟩ := BS0.out.get (.tail _ (.head _))
  obtain ⟨lb, hlb⟩ : ∃ g, g = w.heap.size + 1 := ⟨_, rfl⟩
  rw [← hlb] at kl ll
  rw [show (Value.pointer (some ⟨w.heap.size + 1, 0, none⟩)) = .pointer (some ⟨lb, 0, none⟩) by rw [hlb]]
  have Sl := Lib.hid (show w.heap.size ≤ lb by omega)
  have Kl := Lib.hid kl
  clear kl ll
  obtain ⟨_, lg, kg⟩ := BS0.out.get (.tail _ (.tail _ (.head _)))
  obtain ⟨gb, hgb⟩ : ∃ g, g = w.heap.size := ⟨_, rfl⟩
  rw [← hgb] at kg lg
  rw [show (Value.pointer (some ⟨w.heap.size, 0, none⟩)) = .pointer (some ⟨gb, 0, none⟩) by rw [hgb]]
  have Sg := Lib.hid (show w.heap.size ≤ gb by omega)
  have Kg := Lib.hid kg
  clear kg lg
  clear hwa BS0 hgb hlb hrb
  replace HE := Lib.hid (HE.out.below HB.out)
  replace HF := Lib.hid (HF.out.below HB.out)
  replace HE2 := Lib.hid (HE2.out.below HB.out)
  replace HF2 := Lib.hid (HF2.out.below HB.out)
  replace HX := Lib.hid (HX.out.below HB.out)
  have l0 : wa.cell? ⟨lb, 0, none⟩ = some (.slice E m u) := Kl.out.cell 0
  have l1 : wa.cell? ⟨lb, 1, none⟩ = some (.slice F b v) := Kl.out.cell 1
  have r0 : wa.cell? ⟨rb, 0, none⟩ = some (.slice E2 m u2) := Kr.out.cell 0
  have r1 : wa.cell? ⟨rb, 1, none⟩ = some (.slice F2 b v2) := Kr.out.cell 1
  have r2 : wa.cell? ⟨rb, 2, none⟩ = some (.slice X x y) := Kr.out.cell 2
  have g1 : wa.cell? ⟨gb, 1, none⟩ = some (.int .i64 1) := Kg.out.cell 1
  go_wp2
  have HQ1 := Lib.hid (fun n => Calls.quiet_of_same (HC1.out (wa.drewN n) (HE.out.below (below_drewN (Below.refl _ _) _)) (HE2.out.below (below_drewN (Below.refl _ _) _))))
  have HQ2 := Lib.hid (fun n => Calls.quiet_of_same (HC2.out (wa.drewN n) (HF.out.below (below_drewN (Below.refl _ _) _)) (HF2.out.below (below_drewN (Below.refl _ _) _))))
  have HQ3 := Lib.hid (fun n => Calls.quiet_of_same (HC3.out (wa.drewN n) (HE.out.below (below_drewN (Below.refl _ _) _)) (HX.out.below (below_drewN (Below.refl _ _) _))))
  clear HC1 HC2 HC3 HE HF HE2 HF2 HX
  go_quiet ((go_at_call 43; with_reducible first | exact HQ1.out _ | exact HQ2.out _ | exact HQ3.out _))
  go_wp2

  go_ret3
  exact ⟨rfl, below_drewN HB.out _⟩
set_option maxHeartbeats 8000000 in
set_option maxRecDepth 100000 in
theorem tier_tg (w : World) {m n b c x : Nat} {D : Option Addr} {T k : Nat} {P Q : Nat → Nat} {E F : Option Addr} {u v : Nat} {f g : Nat → Nat} {E2 F2 X : Option Addr} {u2 v2 y : Nat} {f2 g2 h : Nat → Nat} (hG : Gs m n b c x T k P Q) (hD : Cells w D (T * 6) (Six P Q)) (hu : m ≤ u) (hv : b ≤ v) (hE : Cells w E m (Dg f)) (hF : Cells w F b (Dg g)) (hf : Asc f m n) (hg : Asc g b c) (hE2 : Cells w E2 m (Dg f2)) (hF2 : Cells w F2 b (Dg g2)) (hX : Cells w X x (Dg h)) (hf2 : Asc f2 m n) (hg2 : Asc g2 b c) (hh : Asc h x n) (hdj : ∀ k, k < x → hs f2 (h k) m = false) : Calls Tryz.prog 9 #[.agg (tg m n b c x D T k), .agg #[.slice E m u, .slice F b v], .agg #[.slice E2 m u2, .slice F2 b v2, .slice X x y, .int .i64 0, .string ⟨#[]⟩]] w fun e w' => e = .returned (.tuple #[.int .i64 (tno (first P Q (cm f f2 m m) (cm g g2 b b) T)), .int .i64 0]) ∧ Below w.heap.size w w' := by
  have HMC := Lib.hid (fun (w : World) (hD : Cells w D (T * 6) (Six P Q)) (hE : Cells w E m (Dg f)) (hF : Cells w F b (Dg g)) (hE2 : Cells w E2 m (Dg f2)) (hF2 : Cells w F2 b (Dg g2)) (hX : Cells w X x (Dg h)) => mtcheck_tg (u2 := u2) (v2 := v2) (y := y) w hG hD hu hv hE hF hf hg hE2 hF2 hX hf2 hg2 hh hdj)
  have HHI := Lib.hid (fun (w : World) (hE : Cells w E m (Dg f)) (hF : Cells w F b (Dg g)) (hE2 : Cells w E2 m (Dg f2)) (hF2 : Cells w F2 b (Dg g2)) (hX : Cells w X x (Dg h)) => hits_tg (P := P) (Q := Q) (n := n) (c := c) (D := D) (T := T) (k := k) (u := u) (v := v) (u2 := u2) (v2 := v2) (y := y) w (by have := hG.hm; omega) (by have := hG.hb; omega) (by have := hG.hx; omega) hE hF hE2 hF2 hX)
  have HD := Lib.hid hD
  have HE := Lib.hid hE
  have HF := Lib.hid hF
  have HE2 := Lib.hid hE2
  have HF2 := Lib.hid hF2
  have HX := Lib.hid hX
  have hT2 := hG.hT2
  unfold tg at HMC HHI
  clear hG hD hE2 hF2 hX hf2 hg2 hh hdj hE hF hf hg hu hv
  obtain ⟨a, ha⟩ : ∃ z, z = cm f f2 m m := ⟨_, rfl⟩
  obtain ⟨d, hd⟩ : ∃ z, z = cm g g2 b b := ⟨_, rfl⟩
  obtain ⟨z, hz⟩ : ∃ z, z = cm f h x m := ⟨_, rfl⟩
  rw [← ha, ← hd, ← hz] at HHI
  rw [← ha, ← hd]
  clear ha hd hz
  have HR0 : Hid (first P Q a d 0 = none) := Lib.hid rfl
  have BS0 := Lib.hid (box3 w TG TL TR (tg m n b c x D T k) #[.slice E m u, .slice F b v] #[.slice E2 m u2, .slice F2 b v2, .slice X x y, .int .i64 0, .string ⟨#[]⟩])
  unfold tg at BS0 ⊢
  go_enter Tryz.func9, Tryz.ntmps9
  go_upto_region 1 with (fail)
  obtain ⟨wa, hwa⟩ : ∃ wa, wa = (((w.alloc (.cells #[.string lotto, .int .i64 1, .int .i64 200, .int .i64 (m : Int), .int .i64 (n : Int), .int .i64 (b : Int), .int .i64 (c : Int), .int .i64 (x : Int), .int .i64 4, .int .i64 (m : Int), .int .i64 32, .int .i64 1230, .int .i64 30, .int .i64 15, .int .i64 90, .int .i64 5000, .int .i64 0, .int .i64 1, .int .i64 0, .int .i64 0, .slice none 0 0, .slice D T k] TG)).alloc (.cells #[.slice E m u, .slice F b v] TL)).alloc (.cells #[.slice E2 m u2, .slice F2 b v2, .slice X x y, .int .i64 0, .string ⟨#[]⟩] TR)) := ⟨_, rfl⟩
  change Code.wp _ _ _ _ (((w.alloc (.cells #[.string lotto, .int .i64 1, .int .i64 200, .int .i64 (m : Int), .int .i64 (n : Int), .int .i64 (b : Int), .int .i64 (c : Int), .int .i64 (x : Int), .int .i64 4, .int .i64 (m : Int), .int .i64 32, .int .i64 1230, .int .i64 30, .int .i64 15, .int .i64 90, .int .i64 5000, .int .i64 0, .int .i64 1, .int .i64 0, .int .i64 0, .slice none 0 0, .slice D T k] TG)).alloc (.cells #[.slice E m u, .slice F b v] TL)).alloc (.cells #[.slice E2 m u2, .slice F2 b v2, .slice X x y, .int .i64 0, .string ⟨#[]⟩] TR))
  rw [← hwa] at BS0 ⊢
  have HB := Lib.hid BS0.out.below
  obtain ⟨_, lr, kr⟩ := BS0.out.get (.head _)
  obtain ⟨rb, hrb⟩ : ∃ g, g = w.heap.size + 1 + 1 := ⟨_, rfl⟩
  rw [← hrb] at kr lr
  rw [show (Value.pointer (some ⟨w.heap.size + 1 + 1, 0, none⟩)) = .pointer (some ⟨rb, 0, none⟩) by rw [hrb]]
  have Sr := Lib.hid (show w.heap.size ≤ rb by omega)
  have Kr := Lib.hid kr
  clear kr lr
  obtain ⟨_, ll, kl⟩ := BS0.out.get (.tail _ (.head _))
  obtain ⟨lb, hlb⟩ : ∃ g, g = w.heap.size + 1 := ⟨_, rfl⟩
  rw [← hlb] at kl ll
  rw [show (Value.pointer (some ⟨w.heap.size + 1, 0, none⟩)) = .pointer (some ⟨lb, 0, none⟩) by rw [hlb]]
  have Sl := Lib.hid (show w.heap.size ≤ lb by omega)
  have Kl := Lib.hid kl
  clear kl ll
  obtain ⟨_, lg, kg⟩ := BS0.out.get (.tail _ (.tail _ (.head _)))
  obtain ⟨gb, hgb⟩ : ∃ g, g = w.heap.size := ⟨_, rfl⟩
  rw [← hgb] at kg lg
  rw [show (Value.pointer (some ⟨w.heap.size, 0, none⟩)) = .pointer (some ⟨gb, 0, none⟩) by rw [hgb]]
  have Sg := Lib.hid (show w.heap.size ≤ gb by omega)
  have Kg := Lib.hid kg
  clear kg lg
  clear hwa BS0 hgb hlb hrb
  replace HD := Lib.hid (HD.out.below HB.out)
  replace HE := Lib.hid (HE.out.below HB.out)
  replace HF := Lib.hid (HF.out.below HB.out)
  replace HE2 := Lib.hid (HE2.out.below HB.out)
  replace HF2 := Lib.hid (HF2.out.below HB.out)
  replace HX := Lib.hid (HX.out.below HB.out)
  have l0 : wa.cell? ⟨lb, 0, none⟩ = some (.slice E m u) := Kl.out.cell 0
  have l1 : wa.cell? ⟨lb, 1, none⟩ = some (.slice F b v) := Kl.out.cell 1
  have r0 : wa.cell? ⟨rb, 0, none⟩ = some (.slice E2 m u2) := Kr.out.cell 0
  have r1 : wa.cell? ⟨rb, 1, none⟩ = some (.slice F2 b v2) := Kr.out.cell 1
  have r2 : wa.cell? ⟨rb, 2, none⟩ = some (.slice X x y) := Kr.out.cell 2
  have r3 : wa.cell? ⟨rb, 3, none⟩ = some (.int .i64 0) := Kr.out.cell 3
  have r4 : wa.cell? ⟨rb, 4, none⟩ = some (.string ⟨#[]⟩) := Kr.out.cell 4
  go_wp2_with (refine wpList_load_row rfl TG _ rfl gb rfl TG _ (0, 0) _ Kg.out Tryz.underlying27 rfl (by kernel_rfl) ?_)
  go_wp2_with fail
  with_reducible refine (HMC.out _ HD.out HE.out HF.out HE2.out HF2.out HX.out).mono ?_
  rintro e w1 ⟨rfl, hb1⟩
  clear l0 l1 r0 r1 r2 r3 r4
  replace HB := Lib.hid (Below.on HB.out hb1)
  replace Kg := Lib.hid (Kg.out.keep hb1)
  replace Kl := Lib.hid (Kl.out.keep hb1)
  replace Kr := Lib.hid (Kr.out.keep hb1)
  replace HD := Lib.hid (HD.out.below hb1)
  replace HE := Lib.hid (HE.out.below hb1)
  replace HF := Lib.hid (HF.out.below hb1)
  replace HE2 := Lib.hid (HE2.out.below hb1)
  replace HF2 := Lib.hid (HF2.out.below hb1)
  replace HX := Lib.hid (HX.out.below hb1)
  clear hb1
  have l0 : w1.cell? ⟨lb, 0, none⟩ = some (.slice E m u) := Kl.out.cell 0
  have l1 : w1.cell? ⟨lb, 1, none⟩ = some (.slice F b v) := Kl.out.cell 1
  have r0 : w1.cell? ⟨rb, 0, none⟩ = some (.slice E2 m u2) := Kr.out.cell 0
  have r1 : w1.cell? ⟨rb, 1, none⟩ = some (.slice F2 b v2) := Kr.out.cell 1
  have r2 : w1.cell? ⟨rb, 2, none⟩ = some (.slice X x y) := Kr.out.cell 2
  have r3 : w1.cell? ⟨rb, 3, none⟩ = some (.int .i64 0) := Kr.out.cell 3
  have r4 : w1.cell? ⟨rb, 4, none⟩ = some (.string ⟨#[]⟩) := Kr.out.cell 4
  go_wp2_with (refine wpList_load_row rfl TG _ rfl gb rfl TG _ (0, 0) _ Kg.out Tryz.underlying27 rfl (by kernel_rfl) ?_)
  go_wp2_with fail
  with_reducible refine (HHI.out _ HE.out HF.out HE2.out HF2.out HX.out).mono ?_
  rintro e w2 ⟨rfl, hb1⟩
  clear l0 l1 r0 r1 r2 r3 r4
  replace HB := Lib.hid (Below.on HB.out hb1)
  replace Kg := Lib.hid (Kg.out.keep hb1)
  replace HD := Lib.hid (HD.out.below hb1)
  clear hb1
  have g21 : w2.cell? ⟨gb, 21, none⟩ = some (.slice D T k) := Kg.out.cell 21
  clear HMC HHI HE HF HE2 HF2 HX Kl Kr
  go_wp2
  clear g21
  go_loopw [32] (fun i wr => ∃ q : Nat, q ≤ T ∧ i = .int .i64 (q : Int) ∧ Hid (first P Q a d q = none) ∧ Hid (Below w2.heap.size w2 wr)) (fun i _ => T - (intOf i).toNat)
  case atStart => exact ⟨0, Nat.zero_le _, rfl, HR0, Lib.hid (Below.refl _ _)⟩
  case round =>
    obtain ⟨q, hq, rfl, HR, HBW⟩ := hrel
    rename World => wr
    by_cases hqT : q < T
    · obtain ⟨bd, od, hde, hdlt, d0, d1, d2, d3, d4, d5⟩ := (HD.out.below HBW.out).six hqT
      subst hde
      go_upto_region 8 with (fail)
      obtain ⟨wb, hwb⟩ : ∃ wb, wb = wr.alloc (.cells #[.int .i64 (P q : Int), .int .i64 (Q q : Int), .int .i64 0, .int .i64 0, .int .i64 1, .int .i64 10] TT) := ⟨_, rfl⟩
      change Code.wp _ _ _ _ (wr.alloc (.cells #[.int .i64 (P q : Int), .int .i64 (Q q : Int), .int .i64 0, .int .i64 0, .int .i64 1, .int .i64 10] TT))
      obtain ⟨tb, htb⟩ : ∃ g, g = wr.heap.size := ⟨_, rfl⟩
      rw [← hwb, show (Value.pointer (some ⟨wr.heap.size, 0, none⟩)) = .pointer (some ⟨tb, 0, none⟩) by rw [htb]]
      have BT : Hid (Fr.Bs wr wb [(tb, TT, #[.int .i64 (P q : Int), .int .i64 (Q q : Int), .int .i64 0, .int .i64 0, .int .i64 1, .int .i64 10])]) := by
        rw [hwb, htb]
        exact Lib.hid ((Fr.Bs.nil wr).alloc TT _)
      have HB1 := Lib.hid (Below.on HBW.out BT.out.below)
      obtain ⟨_, lt, kt⟩ := BT.out.get (.head _)
      have p0 : wb.cell? ⟨tb, 0, none⟩ = some (.int .i64 (P q : Int)) := kt.cell 0
      have p1 : wb.cell? ⟨tb, 1, none⟩ = some (.int .i64 (Q q : Int)) := kt.cell 1
      have p2 : wb.cell? ⟨tb, 2, none⟩ = some (.int .i64 0) := kt.cell 2
      have g1 : wb.cell? ⟨gb, 1, none⟩ = some (.int .i64 1) := (Kg.out.keep HB1.out).cell 1
      have HBE := Lib.hid (Below.on HB.out HB1.out)
      have hz0 : (0 : Int) ≤ (z : Int) := by omega
      clear kt hwb htb d0 d1 d2 d3 d4 d5 BT lt
      by_cases hp : P q ≤ a
      · have hp1 : (P q : Int) ≤ (a : Int) := by omega
        by_cases hq2 : Q q ≤ d
        · have hp2 : (Q q : Int) ≤ (d : Int) := by omega
          have HY := Lib.hid (first_yes HR.out ⟨hp, hq2⟩ hqT)
          clear hp hq2
          go_wp2
          go_ret2
          exact ⟨by rw [HY.out]; rfl, HBE.out⟩
        · have hp2 : ((Q q : Int) ≤ (d : Int)) = False := eq_false (by omega)
          have HY := Lib.hid (first_no HR.out (fun h => hq2 h.2))
          clear hp hq2
          go_wp2
          go_roundw
          case rel => exact ⟨q + 1, by omega, by first | rfl | simp, HY, HB1⟩
          case measure => simp [intOf]; omega
      · have hp1 : ((P q : Int) ≤ (a : Int)) = False := eq_false (by omega)
        have HY := Lib.hid (first_no HR.out (fun h => hp h.1))
        clear hp
        go_wp2
        go_roundw
        case rel => exact ⟨q + 1, by omega, by first | rfl | simp, HY, HB1⟩
        case measure => simp [intOf]; omega
    · obtain rfl : q = T := by omega
      go_wp2
      go_ret2
      exact ⟨by rw [HR.out]; rfl, Below.on HB.out HBW.out⟩

end Tp
end Go.Proofs.YtdcmpnjhomhhiaaGreat
