/- The walks of matrix.Check, drum.checkNumbers, drum.Check, match.check on a tiny game. -/
import Derived.Test.YtdcmpnjhomhhiaaGreatTopLine
set_option linter.unusedVariables false
namespace Go.Proofs.YtdcmpnjhomhhiaaGreat
open Go.RowKit Fr Fa
namespace Tp
abbrev TR : TypeId := 43
/-- The sizes of a tiny game, and its tiers. -/
structure Gs (m n b c x T k : Nat) (P Q : Nat → Nat) : Prop where
  hm0 : 1 ≤ m
  hm : m ≤ 3
  hmx : m + x ≤ n
  hn : n ≤ 7
  hx : x ≤ 1
  hb : b = 0 ∧ c = 0 ∨ b = 1 ∧ 1 ≤ c ∧ c ≤ 3
  hT : 1 ≤ T
  hT2 : T ≤ 7
  hk : T ≤ k
  hP : ∀ i, i < T → P i ≤ m ∧ Q i ≤ b ∧ 0 < P i + Q i
  hd : ∀ j i, j < i → i < T → P i < P j ∨ P i = P j ∧ Q i < Q j
theorem check_gs (w : World) {m n b c x : Nat} {D : Option Addr} {T k : Nat} {P Q : Nat → Nat} (h : Gs m n b c x T k P Q) (hD : Cells w D (T * 6) (Six P Q)) : Calls Tryz.prog 15 #[.agg (tg m n b c x D T k)] w fun e w' => e = .returned (.tuple #[.int .i64 0, .string ⟨#[]⟩]) ∧ Below w.heap.size w w' :=
  check_tg w h.hm0 h.hm h.hmx h.hn h.hx h.hb hD h.hT h.hT2 h.hk h.hP h.hd
/-- An ascending list of numbers from 1 to M. -/
def Asc (f : Nat → Nat) (m M : Nat) : Prop := ∀ k, k < m → 1 ≤ f k ∧ f k ≤ M ∧ (0 < k → f (k - 1) < f k)
theorem Asc.lt {f : Nat → Nat} {m M : Nat} (h : Asc f m M) : ∀ {j k : Nat}, j < k → k < m → f j < f k
  | j, 0, hj, _ => by omega
  | j, k + 1, hj, hk => by
    have h1 := (h (k + 1) hk).2.2 (by omega)
    rw [Nat.add_sub_cancel] at h1
    rcases Nat.lt_or_ge j k with h2 | h2
    · exact Nat.lt_trans (h.lt h2 (by omega)) h1
    · obtain rfl : j = k := by omega
      exact h1
theorem hs_none {f : Nat → Nat} {v : Nat} : ∀ {k}, (∀ j, j < k → f j ≠ v) → hs f v k = false
  | 0, _ => rfl
  | k + 1, h => hs_no (hs_none fun j hj => h j (by omega)) (h k (by omega))
theorem Asc.norep {f : Nat → Nat} {m M : Nat} (h : Asc f m M) (k : Nat) (hk : k < m) : hs f (f k) k = false :=
  hs_none fun j hj => by have := h.lt hj hk; omega
set_option maxHeartbeats 8000000 in
set_option maxRecDepth 100000 in
theorem mcheck_tg (w : World) {m n b c x : Nat} {D : Option Addr} {T k : Nat} {P Q : Nat → Nat} {E F : Option Addr} {u v : Nat} {f g : Nat → Nat} (hG : Gs m n b c x T k P Q) (hD : Cells w D (T * 6) (Six P Q)) (hu : m ≤ u) (hv : b ≤ v) (hE : Cells w E m (Dg f)) (hF : Cells w F b (Dg g)) (hf : Asc f m n) (hg : Asc g b c) : Calls Tryz.prog 41 #[.agg (tg m n b c x D T k), .agg #[.slice E m u, .slice F b v]] w fun e w' => e = .returned (.int .i64 0) ∧ Below w.heap.size w w' := by
  have HK := Lib.hid (fun (w : World) (hD : Cells w D (T * 6) (Six P Q)) => check_gs w hG hD)
  have hm3 := hG.hm
  have hb1 : b ≤ 1 := by have := hG.hb; omega
  have HI1 := Lib.hid (fun (w : World) (hE : Cells w E m (Dg f)) => inside_yes (c := u) w (by omega) hE fun k hk => ⟨(hf k hk).1, (hf k hk).2.1⟩)
  have HI2 := Lib.hid (fun (w : World) (hF : Cells w F b (Dg g)) => inside_yes (c := v) w (by omega) hF fun k hk => ⟨(hg k hk).1, (hg k hk).2.1⟩)
  have HR1 := Lib.hid (fun (w : World) (hE : Cells w E m (Dg f)) => repeated_no w (by omega) hu hE hf.norep)
  have HR2 := Lib.hid (fun (w : World) (hF : Cells w F b (Dg g)) => repeated_no w (by omega) hv hF hg.norep)
  have HD := Lib.hid hD
  have HE := Lib.hid hE
  have HF := Lib.hid hF
  unfold tg at HK
  clear hG hD hE hF hf hg hm3 hb1 hu hv
  have q1 : ((m : Int) != (m : Int)) = false := by simp
  have q2 : ((b : Int) != (b : Int)) = false := by simp
  have q3 : (m != m) = false := by simp
  have q4 : (b != b) = false := by simp
  have BS0 := Lib.hid (box2 w TG TL (tg m n b c x D T k) #[.slice E m u, .slice F b v])
  unfold tg at BS0 ⊢
  go_enter Tryz.func41, Tryz.ntmps41
  go_upto_region 1 with (fail)
  obtain ⟨wa, hwa⟩ : ∃ wa, wa = ((w.alloc (.cells #[.string lotto, .int .i64 1, .int .i64 200, .int .i64 (m : Int), .int .i64 (n : Int), .int .i64 (b : Int), .int .i64 (c : Int), .int .i64 (x : Int), .int .i64 4, .int .i64 (m : Int), .int .i64 32, .int .i64 1230, .int .i64 30, .int .i64 15, .int .i64 90, .int .i64 5000, .int .i64 0, .int .i64 1, .int .i64 0, .int .i64 0, .slice none 0 0, .slice D T k] TG)).alloc (.cells #[.slice E m u, .slice F b v] TL)) := ⟨_, rfl⟩
  change Code.wp _ _ _ _ ((w.alloc (.cells #[.string lotto, .int .i64 1, .int .i64 200, .int .i64 (m : Int), .int .i64 (n : Int), .int .i64 (b : Int), .int .i64 (c : Int), .int .i64 (x : Int), .int .i64 4, .int .i64 (m : Int), .int .i64 32, .int .i64 1230, .int .i64 30, .int .i64 15, .int .i64 90, .int .i64 5000, .int .i64 0, .int .i64 1, .int .i64 0, .int .i64 0, .slice none 0 0, .slice D T k] TG)).alloc (.cells #[.slice E m u, .slice F b v] TL))
  rw [← hwa] at BS0 ⊢
  have HB := Lib.hid BS0.out.below
  obtain ⟨_, ll, kl⟩ := BS0.out.get (.head _)
  obtain ⟨lb, hlb⟩ : ∃ g, g = w.heap.size + 1 := ⟨_, rfl⟩
  rw [← hlb] at kl ll
  rw [show (Value.pointer (some ⟨w.heap.size + 1, 0, none⟩)) = .pointer (some ⟨lb, 0, none⟩) by rw [hlb]]
  have Sl := Lib.hid (show w.heap.size ≤ lb by omega)
  have Kl := Lib.hid kl
  clear kl ll
  obtain ⟨_, lg, kg⟩ := BS0.out.get (.tail _ (.head _))
  obtain ⟨gb, hgb⟩ : ∃ g, g = w.heap.size := ⟨_, rfl⟩
  rw [← hgb] at kg lg
  rw [show (Value.pointer (some ⟨w.heap.size, 0, none⟩)) = .pointer (some ⟨gb, 0, none⟩) by rw [hgb]]
  have Sg := Lib.hid (show w.heap.size ≤ gb by omega)
  have Kg := Lib.hid kg
  clear kg lg
  clear hwa BS0 hgb hlb
  replace HD := Lib.hid (HD.out.below HB.out)
  replace HE := Lib.hid (HE.out.below HB.out)
  replace HF := Lib.hid (HF.out.below HB.out)
  go_wp2_with (refine wpList_load_row rfl TG _ rfl gb rfl TG _ (0, 0) _ Kg.out Tryz.underlying27 rfl (by kernel_rfl) ?_)
  go_wp2_with fail
  with_reducible refine (HK.out _ HD.out).mono ?_
  rintro e w1 ⟨rfl, hb1⟩
  replace HB := Lib.hid (Below.on HB.out hb1)
  replace Kg := Lib.hid (Kg.out.keep hb1)
  replace Kl := Lib.hid (Kl.out.keep hb1)
  replace HD := Lib.hid (HD.out.below hb1)
  replace HE := Lib.hid (HE.out.below hb1)
  replace HF := Lib.hid (HF.out.below hb1)
  clear hb1
  have g1 : w1.cell? ⟨gb, 1, none⟩ = some (.int .i64 1) := Kg.out.cell 1
  have g3 : w1.cell? ⟨gb, 3, none⟩ = some (.int .i64 (m : Int)) := Kg.out.cell 3
  have g4 : w1.cell? ⟨gb, 4, none⟩ = some (.int .i64 (n : Int)) := Kg.out.cell 4
  have g5 : w1.cell? ⟨gb, 5, none⟩ = some (.int .i64 (b : Int)) := Kg.out.cell 5
  have g6 : w1.cell? ⟨gb, 6, none⟩ = some (.int .i64 (c : Int)) := Kg.out.cell 6
  have l0 : w1.cell? ⟨lb, 0, none⟩ = some (.slice E m u) := Kl.out.cell 0
  have l1 : w1.cell? ⟨lb, 1, none⟩ = some (.slice F b v) := Kl.out.cell 1
  go_wp2
  go_quiet (fail)
  go_wp2_with fail
  rename Nat => nq
  have hb1 : Below w1.heap.size w1 (w1.drewN nq) := below_drewN (Below.refl _ _) _
  generalize w1.drewN nq = w2 at hb1 ⊢
  replace HB := Lib.hid (Below.on HB.out hb1)
  replace Kg := Lib.hid (Kg.out.keep hb1)
  replace Kl := Lib.hid (Kl.out.keep hb1)
  replace HD := Lib.hid (HD.out.below hb1)
  replace HE := Lib.hid (HE.out.below hb1)
  replace HF := Lib.hid (HF.out.below hb1)
  clear hb1
  with_reducible refine (HI1.out _ HE.out).mono ?_
  rintro e w3 ⟨rfl, rfl⟩
  clear g1 g3 g4 g5 g6 l0 l1
  have g6 : w3.cell? ⟨gb, 6, none⟩ = some (.int .i64 (c : Int)) := Kg.out.cell 6
  have l0 : w3.cell? ⟨lb, 0, none⟩ = some (.slice E m u) := Kl.out.cell 0
  have l1 : w3.cell? ⟨lb, 1, none⟩ = some (.slice F b v) := Kl.out.cell 1
  go_wp2_with fail
  with_reducible refine (HI2.out _ HF.out).mono ?_
  rintro e w4 ⟨rfl, rfl⟩
  go_wp2_with fail
  with_reducible refine (HR1.out _ HE.out).mono ?_
  rintro e w5 ⟨rfl, rfl⟩
  go_wp2_with fail
  with_reducible refine (HR2.out _ HF.out).mono ?_
  rintro e w6 ⟨rfl, rfl⟩
  go_wp2
  go_ret
  exact ⟨rfl, HB.out⟩
abbrev TB8 : TypeId := 126
/-- The cells of the array in which the first k numbers are marked. -/
def Seen (cs : Array Value) (f : Nat → Nat) (k : Nat) : Prop := cs.size = 81 ∧ ∀ i, i < 81 → cs[i]? = some (.bool (hs f i k))
theorem seen0 (f : Nat → Nat) : Seen Tryz.zeroCells126 f 0 := by
  have e : Tryz.zeroCells126 = Array.replicate 81 (.bool false) := by kernel_rfl
  rw [e]
  exact ⟨by simp, fun i hi => by simp [hi, hs]⟩
theorem Seen.put {cs : Array Value} {f : Nat → Nat} {k : Nat} (h : Seen cs f k) (hk : f k < 81) : Seen (cs.setIfInBounds (f k) (.bool true)) f (k + 1) :=
  ⟨by rw [Array.size_setIfInBounds]; exact h.1, fun i hi => by
    rw [Array.getElem?_setIfInBounds, hs]
    by_cases e : f k = i
    · subst e
      simp [h.1, hi]
    · rw [if_neg e, h.2 i hi]
      simp [e]⟩
set_option maxHeartbeats 8000000 in
set_option maxRecDepth 100000 in
theorem numbers_tg (w : World) {m n b c x : Nat} {D : Option Addr} {T k : Nat} {P Q : Nat → Nat} {E F X : Option Addr} {u v y : Nat} {f g h : Nat → Nat} (hG : Gs m n b c x T k P Q) (hD : Cells w D (T * 6) (Six P Q)) (hE : Cells w E m (Dg f)) (hF : Cells w F b (Dg g)) (hX : Cells w X x (Dg h)) (hf : Asc f m n) (hg : Asc g b c) (hh : Asc h x n) (hdj : ∀ k, k < x → hs f (h k) m = false) : Calls Tryz.prog 61 #[.agg (tg m n b c x D T k), .agg #[.slice E m u, .slice F b v, .slice X x y, .int .i64 0, .string ⟨#[]⟩]] w fun e w' => e = .returned (.int .i64 0) ∧ Below w.heap.size w w' := by
  have hm3 := hG.hm
  have hb1 : b ≤ 1 := by have := hG.hb; omega
  have hx1 := hG.hx
  have hn7 := hG.hn
  have HI1 := Lib.hid (fun (w : World) (hE : Cells w E m (Dg f)) => list_ok (c := u) w (by omega) hE hf)
  have HI2 := Lib.hid (fun (w : World) (hF : Cells w F b (Dg g)) => list_ok (c := v) w (by omega) hF hg)
  have HI3 := Lib.hid (fun (w : World) (hX : Cells w X x (Dg h)) => list_ok (c := y) w (by omega) hX hh)
  have HN := Lib.hid (show (∀ k, k < m → f k < 8) ∧ ∀ k, k < x → h k < 8 from ⟨fun k hk => by have := (hf k hk).2.1; omega, fun k hk => by have := (hh k hk).2.1; omega⟩)
  have HDJ := Lib.hid hdj
  have HE := Lib.hid hE
  have HF := Lib.hid hF
  have HX := Lib.hid hX
  clear hG hD hE hF hX hf hg hh hdj hn7
  have q1 : ((m : Int) != (m : Int)) = false := by simp
  have q2 : ((b : Int) != (b : Int)) = false := by simp
  have q3 : (m != m) = false := by simp
  have q4 : (b != b) = false := by simp
  have q5 : ((x : Int) != (x : Int)) = false := by simp
  have q6 : (x != x) = false := by simp
  have BS0 := Lib.hid (box2 w TG TR (tg m n b c x D T k) #[.slice E m u, .slice F b v, .slice X x y, .int .i64 0, .string ⟨#[]⟩])
  unfold tg at BS0 ⊢
  go_enter Tryz.func61, Tryz.ntmps61
  go_upto_region 1 with (fail)
  obtain ⟨wa, hwa⟩ : ∃ wa, wa = ((w.alloc (.cells #[.string lotto, .int .i64 1, .int .i64 200, .int .i64 (m : Int), .int .i64 (n : Int), .int .i64 (b : Int), .int .i64 (c : Int), .int .i64 (x : Int), .int .i64 4, .int .i64 (m : Int), .int .i64 32, .int .i64 1230, .int .i64 30, .int .i64 15, .int .i64 90, .int .i64 5000, .int .i64 0, .int .i64 1, .int .i64 0, .int .i64 0, .slice none 0 0, .slice D T k] TG)).alloc (.cells #[.slice E m u, .slice F b v, .slice X x y, .int .i64 0, .string ⟨#[]⟩] TR)) := ⟨_, rfl⟩
  change Code.wp _ _ _ _ ((w.alloc (.cells #[.string lotto, .int .i64 1, .int .i64 200, .int .i64 (m : Int), .int .i64 (n : Int), .int .i64 (b : Int), .int .i64 (c : Int), .int .i64 (x : Int), .int .i64 4, .int .i64 (m : Int), .int .i64 32, .int .i64 1230, .int .i64 30, .int .i64 15, .int .i64 90, .int .i64 5000, .int .i64 0, .int .i64 1, .int .i64 0, .int .i64 0, .slice none 0 0, .slice D T k] TG)).alloc (.cells #[.slice E m u, .slice F b v, .slice X x y, .int .i64 0, .string ⟨#[]⟩] TR))
  rw [← hwa] at BS0 ⊢
  have HB := Lib.hid BS0.out.below
  obtain ⟨_, lr, kr⟩ := BS0.out.get (.head _)
  obtain ⟨rb, hrb⟩ : ∃ g, g = w.heap.size + 1 := ⟨_, rfl⟩
  rw [← hrb] at kr lr
  rw [show (Value.pointer (some ⟨w.heap.size + 1, 0, none⟩)) = .pointer (some ⟨rb, 0, none⟩) by rw [hrb]]
  have Sr := Lib.hid (show w.heap.size ≤ rb by omega)
  have Kr := Lib.hid kr
  clear kr lr
  obtain ⟨_, lg, kg⟩ := BS0.out.get (.tail _ (.head _))
  obtain ⟨gb, hgb⟩ : ∃ g, g = w.heap.size := ⟨_, rfl⟩
  rw [← hgb] at kg lg
  rw [show (Value.pointer (some ⟨w.heap.size, 0, none⟩)) = .pointer (some ⟨gb, 0, none⟩) by rw [hgb]]
  have Sg := Lib.hid (show w.heap.size ≤ gb by omega)
  have Kg := Lib.hid kg
  clear kg lg
  clear hwa BS0 hgb hrb
  replace HE := Lib.hid (HE.out.below HB.out)
  replace HF := Lib.hid (HF.out.below HB.out)
  replace HX := Lib.hid (HX.out.below HB.out)
  have g1 : wa.cell? ⟨gb, 1, none⟩ = some (.int .i64 1) := Kg.out.cell 1
  have g3 : wa.cell? ⟨gb, 3, none⟩ = some (.int .i64 (m : Int)) := Kg.out.cell 3
  have g4 : wa.cell? ⟨gb, 4, none⟩ = some (.int .i64 (n : Int)) := Kg.out.cell 4
  have g5 : wa.cell? ⟨gb, 5, none⟩ = some (.int .i64 (b : Int)) := Kg.out.cell 5
  have g6 : wa.cell? ⟨gb, 6, none⟩ = some (.int .i64 (c : Int)) := Kg.out.cell 6
  have g7 : wa.cell? ⟨gb, 7, none⟩ = some (.int .i64 (x : Int)) := Kg.out.cell 7
  have r0 : wa.cell? ⟨rb, 0, none⟩ = some (.slice E m u) := Kr.out.cell 0
  have r1 : wa.cell? ⟨rb, 1, none⟩ = some (.slice F b v) := Kr.out.cell 1
  have r2 : wa.cell? ⟨rb, 2, none⟩ = some (.slice X x y) := Kr.out.cell 2
  go_wp2_with fail
  with_reducible refine (HI1.out _ HE.out).mono ?_
  rintro e w4 ⟨rfl, rfl⟩
  go_wp2_with fail
  with_reducible refine (HI2.out _ HF.out).mono ?_
  rintro e w4 ⟨rfl, rfl⟩
  go_wp2_with fail
  with_reducible refine (HI3.out _ HX.out).mono ?_
  rintro e w4 ⟨rfl, rfl⟩
  clear g1 g3 g4 g5 g6 g7 r0 r1 r2 HI1 HI2 HI3
  go_upto_region 15 with (fail)
  obtain ⟨wb, hwb⟩ : ∃ wb, wb = w4.alloc (.cells Tryz.zeroCells126 TB8) := ⟨_, rfl⟩
  change Code.wp _ _ _ _ (w4.alloc (.cells Tryz.zeroCells126 TB8))
  obtain ⟨nb, hnb⟩ : ∃ g, g = w4.heap.size := ⟨_, rfl⟩
  rw [← hwb, show (Value.pointer (some ⟨w4.heap.size, 0, none⟩)) = .pointer (some ⟨nb, 0, none⟩) by rw [hnb]]
  have HBN : Hid (Below w4.heap.size w4 wb) := by rw [hwb]; exact Lib.hid ((Below.refl _ _).alloc (Nat.le_refl _) _)
  have KN : Hid (Blk wb nb TB8 Tryz.zeroCells126) := by rw [hwb, hnb]; exact Lib.hid (Blk.new w4 TB8 _)
  have SN := Lib.hid (show w4.heap.size ≤ nb by omega)
  have SE : Hid (Seen Tryz.zeroCells126 f 0) := Lib.hid (seen0 f)
  clear hwb hnb
  have r0 : wb.cell? ⟨rb, 0, none⟩ = some (.slice E m u) := (Kr.out.keep HBN.out).cell 0
  go_wp2
  clear r0
  go_loopw [71] (fun i wr => ∃ (k : Nat) (cs : Array Value), k ≤ m ∧ i = .int .i64 (k : Int) ∧ Hid (Seen cs f k) ∧ Hid (Blk wr nb TB8 cs) ∧ Hid (Below w4.heap.size w4 wr)) (fun i _ => m - (intOf i).toNat)
  case atStart => exact ⟨0, _, Nat.zero_le _, rfl, SE, KN, HBN⟩
  case round =>
    clear SE KN HBN
    obtain ⟨k, cs, hk, rfl, SE, KN, HBN⟩ := hrel
    rename World => wr
    by_cases hkm : k < m
    · obtain ⟨b1, o1, rfl, hlt1, hc1⟩ := (HE.out.below HBN.out).dg hkm
      have h8 := HN.out.1 k hkm
      have hs81 := SE.out.1
      have SE2 := Lib.hid (SE.out.put (show f k < 81 by omega))
      have KN2 := Lib.hid (KN.out.set_ (f k) (.bool true))
      have HBN2 := Lib.hid (HBN.out.setCell (p := ⟨nb, f k, none⟩) SN.out (.bool true))
      have hcn : wr.cell? ⟨nb, f k, none⟩ = some (.bool (hs f (f k) k)) := by rw [KN.out.cell, SE.out.2 _ (by omega)]
      have hfn := KN.out.frozen (f k)
      have hj1 : (f k : Int) < 81 := by omega
      have hj2 : ((f k : Int) < 0) = False := eq_false (by omega)
      clear HN
      go_wp2
      go_roundw
      case rel => exact ⟨k + 1, _, by omega, by first | rfl | simp, SE2, KN2, HBN2⟩
      case measure => simp [intOf]; omega
    · obtain rfl : k = m := by omega
      have r2 : wr.cell? ⟨rb, 2, none⟩ = some (.slice X x y) := (Kr.out.keep HBN.out).cell 2
      go_wp2
      clear r2
      go_loopw [81] (fun i ws => ∃ (j : Nat), j ≤ x ∧ i = .int .i64 (j : Int) ∧ Hid (ws = wr)) (fun i _ => x - (intOf i).toNat)
      case atStart => exact ⟨0, Nat.zero_le _, rfl, Lib.hid rfl⟩
      case round =>
        obtain ⟨j, hj, rfl, HWW⟩ := hrel
        rename World => ws
        by_cases hjx : j < x
        · obtain ⟨b1, o1, rfl, hlt1, hc1⟩ := (HX.out.below HBN.out).dg hjx
          have h8 := HN.out.2 j hjx
          have hj1 : (h j : Int) < 81 := by omega
          have hj2 : ((h j : Int) < 0) = False := eq_false (by omega)
          have hcn : wr.cell? ⟨nb, h j, none⟩ = some (.bool false) := by rw [KN.out.cell, SE.out.2 _ (by omega), HDJ.out j hjx]
          rw [← HWW.out] at hc1 hlt1 hcn
          clear HN
          go_wp2
          go_roundw
          case rel => exact ⟨j + 1, by omega, by first | rfl | simp, HWW⟩
          case measure => simp [intOf]; omega
        · go_wp2
          go_ret
          exact ⟨rfl, by rw [HWW.out]; exact Below.on HB.out HBN.out⟩

end Tp
end Go.Proofs.YtdcmpnjhomhhiaaGreat
