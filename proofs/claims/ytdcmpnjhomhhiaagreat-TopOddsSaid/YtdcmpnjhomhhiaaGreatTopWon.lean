/- The walks of odds.winning, Winning on a tiny game. -/
import Derived.Test.YtdcmpnjhomhhiaaGreatTopWin
set_option linter.unusedVariables false
namespace Go.Proofs.YtdcmpnjhomhhiaaGreat
open Go.RowKit Fr Fa
namespace Tp
def FW (m n b c q : Nat) (i : Nat) : Int := if i = 0 then (m : Int) else if i = 1 then (n : Int) - (m : Int) else if i = 2 then (m : Int) - (q : Int) else if i = 3 then (n : Int) - 2 * (m : Int) + (q : Int) else if i = 4 then (b : Int) else if i = 5 then (c : Int) - (b : Int) else 0
def RW (m x b q j r : Nat) (i : Nat) : Int := if i = 0 then (q : Int) else if i = 1 then (m : Int) - (q : Int) else if i = 2 then (j : Int) else if i = 3 then (x : Int) - (j : Int) else if i = 4 then (r : Int) else if i = 5 then (b : Int) - (r : Int) else 0
/-- The outcomes with q hits, j extra hits, r bonus hits. -/
def Tm (m n x b c q j r : Nat) : Nat := 1 * czi ((m : Int)) ((q : Int)) * czi ((n : Int) - (m : Int)) ((m : Int) - (q : Int)) * czi ((m : Int) - (q : Int)) ((j : Int)) * czi ((n : Int) - 2 * (m : Int) + (q : Int)) ((x : Int) - (j : Int)) * czi ((b : Int)) ((r : Int)) * czi ((c : Int) - (b : Int)) ((b : Int) - (r : Int))
/-- Those of them that win in the tier t. -/
def ta (P Q : Nat → Nat) (T t m n x b c : Nat) (q j r : Nat) : Nat := if first P Q q r T = some t then Tm m n x b c q j r else 0
def sB (f : Nat → Nat → Nat → Nat) (q j : Nat) : Nat → Nat
  | 0 => 0
  | r + 1 => sB f q j r + f q j r
def sX (f : Nat → Nat → Nat → Nat) (b1 q : Nat) : Nat → Nat
  | 0 => 0
  | j + 1 => sX f b1 q j + sB f q j b1
def sW (f : Nat → Nat → Nat → Nat) (b1 x1 : Nat) : Nat → Nat
  | 0 => 0
  | q + 1 => sW f b1 x1 q + sX f b1 q x1
theorem sB_le {f : Nat → Nat → Nat → Nat} {q j C : Nat} : ∀ K, (∀ r, r < K → f q j r ≤ C) → sB f q j K ≤ K * C
  | 0, _ => by simp [sB]
  | K + 1, h => by
    have h1 := sB_le K (fun r hr => h r (by omega))
    have h2 := h K (by omega)
    rw [sB, Nat.succ_mul]; omega
theorem sX_le {f : Nat → Nat → Nat → Nat} {b1 q C : Nat} : ∀ K, (∀ j, j < K → sB f q j b1 ≤ C) → sX f b1 q K ≤ K * C
  | 0, _ => by simp [sX]
  | K + 1, h => by
    have h1 := sX_le K (fun r hr => h r (by omega))
    have h2 := h K (by omega)
    rw [sX, Nat.succ_mul]; omega
theorem sW_le {f : Nat → Nat → Nat → Nat} {b1 x1 C : Nat} : ∀ K, (∀ q, q < K → sX f b1 q x1 ≤ C) → sW f b1 x1 K ≤ K * C
  | 0, _ => by simp [sW]
  | K + 1, h => by
    have h1 := sW_le K (fun r hr => h r (by omega))
    have h2 := h K (by omega)
    rw [sW, Nat.succ_mul]; omega
theorem six_le {a b c d e f : Nat} (ha : a ≤ 100) (hb : b ≤ 100) (hc : c ≤ 100) (hd : d ≤ 100) (he : e ≤ 100) (hf : f ≤ 100) : 1 * a * b * c * d * e * f ≤ 1000000000000 := by
  have h1 := Nat.mul_le_mul ha hb
  have h2 := Nat.mul_le_mul h1 hc
  have h3 := Nat.mul_le_mul h2 hd
  have h4 := Nat.mul_le_mul h3 he
  have h5 := Nat.mul_le_mul h4 hf
  rw [Nat.one_mul]
  exact Nat.le_trans h5 (by decide)
theorem ta_le {P Q : Nat → Nat} {T t m n x b c q j r : Nat} (hm : m ≤ 3) (hn : n ≤ 7) (hb : b ≤ 1) (hc : c ≤ 3) (hx : x ≤ 1) (hq : q ≤ m) (hj : j ≤ x) (hr : r ≤ b) : ta P Q T t m n x b c q j r ≤ 1000000000000 := by
  unfold ta
  split
  · unfold Tm
    exact six_le (czi_le (by omega) (by omega)) (czi_le (by omega) (by omega)) (czi_le (by omega) (by omega)) (czi_le (by omega) (by omega)) (czi_le (by omega) (by omega)) (czi_le (by omega) (by omega))
  · omega
theorem all_lt {P Q : Nat → Nat} {T t m n x b c : Nat} (hm : m ≤ 3) (hn : n ≤ 7) (hb : b ≤ 1) (hc : c ≤ 3) (hx : x ≤ 1) {q j r : Nat} (hq : q ≤ m) (hj : j ≤ x) (hr : r ≤ b) :
    sW (ta P Q T t m n x b c) (b + 1) (x + 1) q + sX (ta P Q T t m n x b c) (b + 1) q j + sB (ta P Q T t m n x b c) q j (r + 1) < 18446744073709551616 := by
  have hB : ∀ q j K, q ≤ m → j ≤ x → K ≤ b + 1 → sB (ta P Q T t m n x b c) q j K ≤ 2 * 1000000000000 := fun q j K h1 h2 h3 =>
    Nat.le_trans (sB_le K fun r hr => ta_le hm hn hb hc hx h1 h2 (by omega)) (Nat.mul_le_mul_right _ (by omega))
  have hX : ∀ q K, q ≤ m → K ≤ x + 1 → sX (ta P Q T t m n x b c) (b + 1) q K ≤ 2 * (2 * 1000000000000) := fun q K h1 h3 =>
    Nat.le_trans (sX_le K fun j hj => hB q j _ h1 (by omega) (Nat.le_refl _)) (Nat.mul_le_mul_right _ (by omega))
  have hW := Nat.le_trans (sW_le (f := ta P Q T t m n x b c) (b1 := b + 1) (x1 := x + 1) q fun q' h => hX q' _ (by omega) (Nat.le_refl _)) (Nat.mul_le_mul_right _ (show q ≤ 3 by omega))
  have h1 := hX q j hq (by omega)
  have h2 := hB q j (r + 1) hq hj (by omega)
  omega
/-- A number V in limbs, off the blocks up to sb. -/
def Vl (w : World) (sb : Nat) (S : Option Addr) (l V : Nat) : Prop := l = L32 V ∧ Cells w S l (Lm (d32 V)) ∧ Fresh (sb + 1) S
theorem Vl.below {w w' : World} {sb : Nat} {S : Option Addr} {l V : Nat} (h : Vl w sb S l V) (hb : Below w.heap.size w w') : Vl w' sb S l V := ⟨h.1, h.2.1.below hb, h.2.2⟩
theorem Vl.put {w : World} {sb g : Nat} {S : Option Addr} {l V : Nat} (h : Vl w sb S l V) (hg : g < sb + 1) (u : Value) : Vl (w.setCell ⟨g, 0, none⟩ u) sb S l V := ⟨h.1, h.2.1.set_ h.2.2 hg 0 u, h.2.2⟩
set_option maxHeartbeats 8000000 in
set_option maxRecDepth 100000 in
theorem wsum_tg (w : World) {m n b c x : Nat} {D : Option Addr} {T k : Nat} {P Q : Nat → Nat} (hG : Gs m n b c x T k P Q) (hD : Cells w D (T * 6) (Six P Q)) (t : Nat) : Calls Tryz.prog 24 #[.agg (tg m n b c x D T k), .int .i64 (t : Int)] w fun e w' => Num1 w.heap.size w' e (sW (ta P Q T t m n x b c) (b + 1) (x + 1) (m + 1)) ∧ Below w.heap.size w w' := by
  have h7 := hG.hn
  have hb2 : b ≤ 1 := by have := hG.hb; omega
  have hm3 := hG.hm
  have hmx := hG.hmx
  have hx1 := hG.hx
  have hc3 : c ≤ 3 := by have := hG.hb; omega
  have hT7 := hG.hT2
  have HWO := Lib.hid (fun (w : World) (q j r : Nat) (hD : Cells w D (T * 6) (Six P Q)) => won_tg (m := m) (n := n) (b := b) (c := c) (x := x) (k := k) (a := q) (z := j) (d := r) w hT7 hD)
  have HC := Lib.hid (fun (w : World) (q j r : Nat) (hq : q ≤ m) (hj : j ≤ x) (hr : r ≤ b) (A : Option Addr) (d : Nat) (hA : Cells w A (6 * 2) (Two (FW m n b c q) (RW m x b q j r))) => chosen_any (c := d) w (by omega) hA (by unfold FW; intro i hi; repeat' split <;> omega) (by unfold FW RW; intro i hi; apply czi_le <;> (repeat' split <;> omega)))
  have HLT := Lib.hid (fun (q j r : Nat) (hq : q ≤ m) (hj : j ≤ x) (hr : r ≤ b) => all_lt (P := P) (Q := Q) (T := T) (t := t) (n := n) (c := c) hm3 h7 hb2 hc3 hx1 hq hj hr)
  have HTA : Hid (∀ q j r, ta P Q T t m n x b c q j r = if first P Q q r T = some t then Tm m n x b c q j r else 0) := Lib.hid fun _ _ _ => rfl
  have HTM : Hid (∀ q j r, pr (fun i => czi (FW m n b c q i) (RW m x b q j r i)) 6 = Tm m n x b c q j r) := Lib.hid fun _ _ _ => rfl
  obtain ⟨f, hf⟩ : ∃ f, f = ta P Q T t m n x b c := ⟨_, rfl⟩
  rw [← hf] at HLT HTA ⊢
  obtain ⟨m1, hm1⟩ : ∃ z, z = m + 1 := ⟨_, rfl⟩
  obtain ⟨x1, hx2⟩ : ∃ z, z = x + 1 := ⟨_, rfl⟩
  obtain ⟨b1, hb1⟩ : ∃ z, z = b + 1 := ⟨_, rfl⟩
  rw [← hx2, ← hb1] at HLT
  rw [← hm1, ← hx2, ← hb1]
  have w1 : IntKind.i64.wrap ((m : Int) + 1) = (m1 : Int) := by rw [IntWalk.i64_in _ (by omega)]; omega
  have w2 : IntKind.i64.wrap ((x : Int) + 1) = (x1 : Int) := by rw [IntWalk.i64_in _ (by omega)]; omega
  have w3 : IntKind.i64.wrap ((b : Int) + 1) = (b1 : Int) := by rw [IntWalk.i64_in _ (by omega)]; omega
  have n1 : m1 ≤ 4 := by omega
  have n2 : x1 ≤ 2 := by omega
  have n3 : b1 ≤ 2 := by omega
  have HEQ := Lib.hid (show m1 = m + 1 ∧ x1 = x + 1 ∧ b1 = b + 1 from ⟨hm1, hx2, hb1⟩)
  have HBD := Lib.hid (show m ≤ 3 ∧ n ≤ 7 ∧ b ≤ 1 ∧ c ≤ 3 ∧ x ≤ 1 from ⟨hm3, h7, hb2, hc3, hx1⟩)
  have HDK : Hid (∀ wr, Below w.heap.size w wr → Cells wr D (T * 6) (Six P Q)) := Lib.hid fun wr h => hD.below h
  unfold tg at HWO
  clear hG hD hf hm1 hx2 hb1 h7 hb2 hm3 hmx hx1 hc3 hT7
  have BS0 := Lib.hid (box2 w TG TN (tg m n b c x D T k) #[.slice none 0 0])
  unfold tg at BS0 ⊢
  go_enter Tryz.func24, Tryz.ntmps24
  go_upto_region 1 with (fail)
  obtain ⟨wa, hwa⟩ : ∃ wa, wa = ((w.alloc (.cells #[.string lotto, .int .i64 1, .int .i64 200, .int .i64 (m : Int), .int .i64 (n : Int), .int .i64 (b : Int), .int .i64 (c : Int), .int .i64 (x : Int), .int .i64 4, .int .i64 (m : Int), .int .i64 32, .int .i64 1230, .int .i64 30, .int .i64 15, .int .i64 90, .int .i64 5000, .int .i64 0, .int .i64 1, .int .i64 0, .int .i64 0, .slice none 0 0, .slice D T k] TG)).alloc (.cells #[.slice none 0 0] TN)) := ⟨_, rfl⟩
  change Code.wp _ _ _ _ ((w.alloc (.cells #[.string lotto, .int .i64 1, .int .i64 200, .int .i64 (m : Int), .int .i64 (n : Int), .int .i64 (b : Int), .int .i64 (c : Int), .int .i64 (x : Int), .int .i64 4, .int .i64 (m : Int), .int .i64 32, .int .i64 1230, .int .i64 30, .int .i64 15, .int .i64 90, .int .i64 5000, .int .i64 0, .int .i64 1, .int .i64 0, .int .i64 0, .slice none 0 0, .slice D T k] TG)).alloc (.cells #[.slice none 0 0] TN))
  rw [← hwa] at BS0 ⊢
  have HB := Lib.hid BS0.out.below
  obtain ⟨_, lz, kz⟩ := BS0.out.get (.head _)
  obtain ⟨zb, hzb⟩ : ∃ g, g = w.heap.size + 1 := ⟨_, rfl⟩
  rw [← hzb] at kz lz
  rw [show (Value.pointer (some ⟨w.heap.size + 1, 0, none⟩)) = .pointer (some ⟨zb, 0, none⟩) by rw [hzb]]
  have Sz := Lib.hid (show w.heap.size ≤ zb by omega)
  have Kz := Lib.hid kz
  clear kz lz
  obtain ⟨_, lg, kg⟩ := BS0.out.get (.tail _ (.head _))
  obtain ⟨gb, hgb⟩ : ∃ g, g = w.heap.size := ⟨_, rfl⟩
  rw [← hgb] at kg lg
  rw [show (Value.pointer (some ⟨w.heap.size, 0, none⟩)) = .pointer (some ⟨gb, 0, none⟩) by rw [hgb]]
  have Sg := Lib.hid (show w.heap.size ≤ gb by omega)
  have Kg := Lib.hid kg
  clear kg lg
  rw [← hzb, ← hgb] at BS0
  clear hwa hgb hzb
  have g1 : wa.cell? ⟨gb, 1, none⟩ = some (.int .i64 1) := Kg.out.cell 1
  go_upto_region 4 with (fail)
  obtain ⟨ws, hws⟩ : ∃ ws, ws = wa.alloc (.cells #[.slice none 0 0] TN) := ⟨_, rfl⟩
  change Code.wp _ _ _ _ (wa.alloc (.cells #[.slice none 0 0] TN))
  have BS1 := Lib.hid (BS0.out.alloc TN #[.slice none 0 0])
  obtain ⟨sb, hsb⟩ : ∃ g, g = wa.heap.size := ⟨_, rfl⟩
  rw [← hsb, ← hws] at BS1
  rw [← hws, show (Value.pointer (some ⟨wa.heap.size, 0, none⟩)) = .pointer (some ⟨sb, 0, none⟩) by rw [hsb]]
  have HNE := Lib.hid (show zb < sb ∧ gb < sb ∧ w.heap.size ≤ zb ∧ w.heap.size ≤ sb by have h1 := Kz.out.lt; have h2 := Kg.out.lt; have h3 := Sz.out; omega)
  have V0 : Hid (Vl ws sb none 0 (sW f b1 x1 0)) := Lib.hid ⟨(L32_zero.2 rfl).symm, Cells.nil, fun a ha => by cases ha⟩
  clear hws hsb g1 BS0 Kg Kz Sg Sz HB
  have g3 : ws.cell? ⟨gb, 3, none⟩ = some (.int .i64 (m : Int)) := (BS1.out.get (.tail _ (.tail _ (.head _)))).2.2.cell 3
  go_wp2
  clear g3
  go_loopw [24] (fun i wr => ∃ (q : Nat) (S : Option Addr) (l cc V : Nat), q ≤ m1 ∧ i = .int .i64 (q : Int) ∧ Hid (V = sW f b1 x1 q) ∧ Hid (Vl wr sb S l V) ∧ Hid (Bs w wr [(sb, TN, #[.slice S l cc]), (zb, TN, #[.slice none 0 0]), (gb, TG, #[.string lotto, .int .i64 1, .int .i64 200, .int .i64 (m : Int), .int .i64 (n : Int), .int .i64 (b : Int), .int .i64 (c : Int), .int .i64 (x : Int), .int .i64 4, .int .i64 (m : Int), .int .i64 32, .int .i64 1230, .int .i64 30, .int .i64 15, .int .i64 90, .int .i64 5000, .int .i64 0, .int .i64 1, .int .i64 0, .int .i64 0, .slice none 0 0, .slice D T k])])) (fun i _ => m1 - (intOf i).toNat)
  case atStart => exact ⟨0, none, 0, 0, _, Nat.zero_le _, rfl, Lib.hid rfl, V0, BS1⟩
  case round =>
    clear V0 BS1
    obtain ⟨q, S, l, cc, V, hq, rfl, HV, VL, HBS⟩ := hrel
    rename World => wr
    by_cases hqm : q < m1
    · have HQ := Lib.hid hqm
      have g7 : wr.cell? ⟨gb, 7, none⟩ = some (.int .i64 (x : Int)) := (HBS.out.get (.tail _ (.tail _ (.head _)))).2.2.cell 7
      go_wp2
      clear g7
      go_loopw [30] (fun i wr => ∃ (j : Nat) (S : Option Addr) (l cc V : Nat), j ≤ x1 ∧ i = .int .i64 (j : Int) ∧ Hid (V = sW f b1 x1 q + sX f b1 q j) ∧ Hid (Vl wr sb S l V) ∧ Hid (Bs w wr [(sb, TN, #[.slice S l cc]), (zb, TN, #[.slice none 0 0]), (gb, TG, #[.string lotto, .int .i64 1, .int .i64 200, .int .i64 (m : Int), .int .i64 (n : Int), .int .i64 (b : Int), .int .i64 (c : Int), .int .i64 (x : Int), .int .i64 4, .int .i64 (m : Int), .int .i64 32, .int .i64 1230, .int .i64 30, .int .i64 15, .int .i64 90, .int .i64 5000, .int .i64 0, .int .i64 1, .int .i64 0, .int .i64 0, .slice none 0 0, .slice D T k])])) (fun i _ => x1 - (intOf i).toNat)
      case atStart => exact ⟨0, S, l, cc, V, Nat.zero_le _, rfl, Lib.hid (by rw [sX, Nat.add_zero]; exact HV.out), VL, HBS⟩
      case round =>
        clear HV VL HBS
        obtain ⟨j, S, l, cc, V, hj, rfl, HV, VL, HBS⟩ := hrel
        rename World => wr
        by_cases hjx : j < x1
        · have HJ := Lib.hid hjx
          have g5 : wr.cell? ⟨gb, 5, none⟩ = some (.int .i64 (b : Int)) := (HBS.out.get (.tail _ (.tail _ (.head _)))).2.2.cell 5
          go_wp2
          clear g5
          go_loopw [36] (fun i wr => ∃ (r : Nat) (S : Option Addr) (l cc V : Nat), r ≤ b1 ∧ i = .int .i64 (r : Int) ∧ Hid (V = sW f b1 x1 q + sX f b1 q j + sB f q j r) ∧ Hid (Vl wr sb S l V) ∧ Hid (Bs w wr [(sb, TN, #[.slice S l cc]), (zb, TN, #[.slice none 0 0]), (gb, TG, #[.string lotto, .int .i64 1, .int .i64 200, .int .i64 (m : Int), .int .i64 (n : Int), .int .i64 (b : Int), .int .i64 (c : Int), .int .i64 (x : Int), .int .i64 4, .int .i64 (m : Int), .int .i64 32, .int .i64 1230, .int .i64 30, .int .i64 15, .int .i64 90, .int .i64 5000, .int .i64 0, .int .i64 1, .int .i64 0, .int .i64 0, .slice none 0 0, .slice D T k])])) (fun i _ => b1 - (intOf i).toNat)
          case atStart => exact ⟨0, S, l, cc, V, Nat.zero_le _, rfl, Lib.hid (by rw [sB, Nat.add_zero]; exact HV.out), VL, HBS⟩
          case round =>
            clear HV VL HBS
            obtain ⟨r, S, l, cc, V, hr, rfl, HV, VL, HBS⟩ := hrel
            rename World => wr
            by_cases hrb : r < b1
            · have HR := Lib.hid hrb
              have HKG := Lib.hid (HBS.out.get (.tail _ (.tail _ (.head _)))).2.2
              have HF := Lib.hid (HTA.out q j r)
              have HWK := Lib.hid (HWO.out wr q j r (HDK.out wr HBS.out.below))
              obtain ⟨oi, hoi⟩ : ∃ oi, oi = tno (first P Q q r T) := ⟨_, rfl⟩
              rw [← hoi] at HWK
              have HLV := Lib.hid (show V + f q j r < 18446744073709551616 by have := HLT.out q j r (by have := HEQ.out; have := HQ.out; omega) (by have := HEQ.out; have := HJ.out; omega) (by have := HEQ.out; have := HR.out; omega); rw [sB] at this; rw [HV.out]; omega)
              have HVN := Lib.hid (show V + f q j r = sW f b1 x1 q + sX f b1 q j + sB f q j (r + 1) by rw [sB, HV.out]; omega)
              by_cases hw : first P Q q r T = some t
              · have e1 : (oi != (t : Int)) = false := by rw [hoi, hw]; simp [tno]
                rw [hw, if_pos rfl] at HF
                clear hw hoi
                go_wp2_with (refine wpList_load_row rfl TG _ rfl gb rfl TG _ (0, 0) _ HKG.out Tryz.underlying27 rfl (by kernel_rfl) ?_)
                go_wp2_with fail
                with_reducible refine HWK.out.mono ?_
                rintro e wx ⟨rfl, hb1⟩
                replace HBS := Lib.hid (HBS.out.on hb1)
                replace VL := Lib.hid (VL.out.below hb1)
                clear hb1 HKG HWK
                have kg := (HBS.out.get (.tail _ (.tail _ (.head _)))).2.2
                have g3 : wx.cell? ⟨gb, 3, none⟩ = some (.int .i64 (m : Int)) := kg.cell 3
                have g4 : wx.cell? ⟨gb, 4, none⟩ = some (.int .i64 (n : Int)) := kg.cell 4
                have g5 : wx.cell? ⟨gb, 5, none⟩ = some (.int .i64 (b : Int)) := kg.cell 5
                have g6 : wx.cell? ⟨gb, 6, none⟩ = some (.int .i64 (c : Int)) := kg.cell 6
                have g7 : wx.cell? ⟨gb, 7, none⟩ = some (.int .i64 (x : Int)) := kg.cell 7
                clear kg
                obtain ⟨d1, h1⟩ : ∃ z, z = (n : Int) - (m : Int) := ⟨_, rfl⟩
                obtain ⟨d2, h2⟩ : ∃ z, z = (m : Int) - (q : Int) := ⟨_, rfl⟩
                obtain ⟨m2, h2m⟩ : ∃ z, z = 2 * (m : Int) := ⟨_, rfl⟩
                obtain ⟨d3, h3⟩ : ∃ z, z = (n : Int) - m2 := ⟨_, rfl⟩
                obtain ⟨d4, h4⟩ : ∃ z, z = d3 + (q : Int) := ⟨_, rfl⟩
                obtain ⟨d5, h5⟩ : ∃ z, z = (x : Int) - (j : Int) := ⟨_, rfl⟩
                obtain ⟨d6, h6⟩ : ∃ z, z = (c : Int) - (b : Int) := ⟨_, rfl⟩
                obtain ⟨d7, h7⟩ : ∃ z, z = (b : Int) - (r : Int) := ⟨_, rfl⟩
                have hbd := HBD.out
                have heq := HEQ.out
                have y1 : IntKind.i64.wrap ((n : Int) - (m : Int)) = d1 := by rw [IntWalk.i64_in _ (by omega)]; exact h1.symm
                have y2 : IntKind.i64.wrap ((m : Int) - (q : Int)) = d2 := by rw [IntWalk.i64_in _ (by omega)]; exact h2.symm
                have y2m : IntKind.i64.wrap (2 * (m : Int)) = m2 := by rw [IntWalk.i64_in _ (by omega)]; exact h2m.symm
                have y3 : IntKind.i64.wrap ((n : Int) - m2) = d3 := by rw [IntWalk.i64_in _ (by omega)]; exact h3.symm
                have y4 : IntKind.i64.wrap (d3 + (q : Int)) = d4 := by rw [IntWalk.i64_in _ (by omega)]; exact h4.symm
                have y5 : IntKind.i64.wrap ((x : Int) - (j : Int)) = d5 := by rw [IntWalk.i64_in _ (by omega)]; exact h5.symm
                have y6 : IntKind.i64.wrap ((c : Int) - (b : Int)) = d6 := by rw [IntWalk.i64_in _ (by omega)]; exact h6.symm
                have y7 : IntKind.i64.wrap ((b : Int) - (r : Int)) = d7 := by rw [IntWalk.i64_in _ (by omega)]; exact h7.symm
                have HCT : Hid (∀ (w : World), Cells (w.alloc (.cells #[.int .i64 (m : Int), .int .i64 (q : Int), .int .i64 d1, .int .i64 d2, .int .i64 d2, .int .i64 (j : Int), .int .i64 d4, .int .i64 d5, .int .i64 (b : Int), .int .i64 (r : Int), .int .i64 d6, .int .i64 d7] 80)) (some ⟨w.heap.size, 0, none⟩) (6 * 2) (Two (FW m n b c q) (RW m x b q j r))) := Lib.hid fun w => Cells.lit rfl (by
                  rw [h7, h6, h5, h4, h3, h2m, h2, h1]
                  intro jj hjj
                  match jj, hjj with
                  | 0, _ => rfl
                  | 1, _ => rfl
                  | 2, _ => rfl
                  | 3, _ => rfl
                  | 4, _ => rfl
                  | 5, _ => rfl
                  | 6, _ => rfl
                  | 7, _ => rfl
                  | 8, _ => rfl
                  | 9, _ => rfl
                  | 10, _ => rfl
                  | 11, _ => rfl)
                have HCC := Lib.hid (fun (w : World) (A : Option Addr) (d : Nat) hA => HC.out w q j r (by omega) (by omega) (by omega) A d hA)
                rw [HTM.out, ← HF.out] at HCC
                obtain ⟨N, hN⟩ : ∃ N, N = f q j r := ⟨_, rfl⟩
                rw [← hN] at HCC HLV HVN
                clear hN HF hbd heq h1 h2 h2m h3 h4 h5 h6 h7
                go_wp2_with fail
                with_reducible refine (HCC.out _ _ _ (HCT.out wx)).mono ?_
                rintro e w4 ⟨⟨D1, l1, cc1, rfl, hl1, hc1, hf1⟩, hb2⟩
                have hb1 : Below wx.heap.size wx w4 := Below.on ((Below.refl _ _).alloc (Nat.le_refl _) _) hb2
                replace HBS := Lib.hid (HBS.out.on hb1)
                replace VL := Lib.hid (VL.out.below hb1)
                have HL1 := Lib.hid hl1
                have HC1 := Lib.hid hc1
                clear hl1 hc1 hf1 hb1 hb2 HCC HCT g3 g4 g5 g6 g7 y1 y2 y2m y3 y4 y5 y6 y7
                go_upto_region 15 with (fail)
                obtain ⟨wn, hwn⟩ : ∃ wn, wn = w4.alloc (.cells #[.slice D1 l1 cc1] TN) := ⟨_, rfl⟩
                change Code.wp _ _ _ _ (w4.alloc (.cells #[.slice D1 l1 cc1] TN))
                obtain ⟨nb, hnb⟩ : ∃ g, g = w4.heap.size := ⟨_, rfl⟩
                have BSN := Lib.hid (HBS.out.alloc TN #[.slice D1 l1 cc1])
                have hbn : Below w4.heap.size w4 wn := by rw [hwn]; exact (Below.refl _ _).alloc (Nat.le_refl _) _
                rw [← hwn, ← hnb] at BSN
                rw [← hwn, show (Value.pointer (some ⟨w4.heap.size, 0, none⟩)) = .pointer (some ⟨nb, 0, none⟩) by rw [hnb]]
                replace VL := Lib.hid (VL.out.below hbn)
                replace HC1 := Lib.hid (HC1.out.below hbn)
                have qn : wn.cell? ⟨nb, 0, none⟩ = some (.slice D1 l1 cc1) := (BSN.out.get (.head _)).2.2.cell 0
                have qs : wn.cell? ⟨sb, 0, none⟩ = some (.slice S l cc) := (BSN.out.get (.tail _ (.head _))).2.2.cell 0
                have HSL := Lib.hid (BSN.out.get (.tail _ (.head _))).2.1
                have l64 : l ≤ 64 := by rw [VL.out.1]; exact len2 (by have := HLV.out; omega)
                have l164 : l1 ≤ 64 := by rw [HL1.out]; exact len2 (by have := HLV.out; omega)
                clear hwn hnb hbn HBS
                go_wp2_with fail
                refine (add_any (x := V) (y := N) l64 l164 VL.out.1 HL1.out VL.out.2.1 HC1.out).mono ?_
                rintro e w5 ⟨hr, hb⟩
                rcases hr with ⟨_, Dn, cn, rfl, _, hcn, hfn⟩ | ⟨h9, _⟩
                case inr => exact absurd h9 (by have := len2 HLV.out; omega)
                obtain ⟨ln, hln⟩ : ∃ l, l = L32 (V + N) := ⟨_, rfl⟩
                rw [← hln] at hcn ⊢
                have BS5 := Lib.hid ((BSN.out.sub (l' := [(sb, TN, #[.slice S l cc]), (zb, TN, #[.slice none 0 0]), (gb, TG, #[.string lotto, .int .i64 1, .int .i64 200, .int .i64 (m : Int), .int .i64 (n : Int), .int .i64 (b : Int), .int .i64 (c : Int), .int .i64 (x : Int), .int .i64 4, .int .i64 (m : Int), .int .i64 32, .int .i64 1230, .int .i64 30, .int .i64 15, .int .i64 90, .int .i64 5000, .int .i64 0, .int .i64 1, .int .i64 0, .int .i64 0, .slice none 0 0, .slice D T k])]) fun x hx => .tail _ hx).on hb)
                have VN : Hid (Vl w5 sb Dn ln (V + N)) := Lib.hid ⟨hln, hcn, hfn.mono HSL.out⟩
                clear hb hcn hfn hln BSN qn qs VL HC1 HL1 l64 l164
                have kb := (BS5.out.get (.head _)).2.2
                have qb : w5.cell? ⟨sb, 0, none⟩ = some (.slice S l cc) := kb.cell 0
                have fb : w5.frozen? ⟨sb, 0, none⟩ = false := kb.frozen 0
                have HV2 : Hid (V + N = sW f b1 x1 q + sX f b1 q j + sB f q j (r + 1)) := HVN
                clear kb
                unfold natv
                go_wp2
                go_roundw
                case rel =>
                  refine ⟨r + 1, Dn, ln, cn, V + N, HR.out, by first | rfl | simp, HV2, Lib.hid (VN.out.put (Nat.lt_succ_self sb) _), ?_⟩
                  refine Lib.hid (Bs.put (cs := #[.slice S l cc]) BS5.out ?_ 0 _)
                  intro b' t' cs' hb
                  have := HNE.out
                  simp at hb
                  omega
                case measure => have := HR.out; simp [intOf] <;> omega
              · have e1 : (oi != (t : Int)) = true := by
                  rw [hoi]
                  refine bne_iff_ne.mpr fun h => hw ?_
                  cases h2 : first P Q q r T with
                  | none => rw [h2] at h; have h' : (-1 : Int) = (t : Int) := h; omega
                  | some i => rw [h2] at h; have h' : ((i : Nat) : Int) = (t : Int) := h; rw [show i = t by omega]
                rw [if_neg hw] at HF
                have HV2 : Hid (V = sW f b1 x1 q + sX f b1 q j + sB f q j (r + 1)) := Lib.hid (by have := HVN.out; rw [HF.out] at this; omega)
                clear hw hoi HF HVN HLV
                go_wp2_with (refine wpList_load_row rfl TG _ rfl gb rfl TG _ (0, 0) _ HKG.out Tryz.underlying27 rfl (by kernel_rfl) ?_)
                go_wp2_with fail
                with_reducible refine HWK.out.mono ?_
                rintro e wx ⟨rfl, hb1⟩
                replace HBS := Lib.hid (HBS.out.on hb1)
                replace VL := Lib.hid (VL.out.below hb1)
                clear hb1 HKG HWK
                go_wp2
                go_roundw
                case rel => exact ⟨r + 1, S, l, cc, V, HR.out, by first | rfl | simp, HV2, VL, HBS⟩
                case measure => have := HR.out; simp [intOf] <;> omega
            · have HV2 : Hid (V = sW f b1 x1 q + sX f b1 q (j + 1)) := Lib.hid (by have h := HV.out; rw [show r = b1 by omega] at h; rw [sX, h]; omega)
              go_wp2
              go_roundw
              case rel => exact ⟨j + 1, S, l, cc, V, HJ.out, by first | rfl | simp, HV2, VL, HBS⟩
              case measure => have := HJ.out; simp [intOf] <;> omega
        · have HV2 : Hid (V = sW f b1 x1 (q + 1)) := Lib.hid (by have h := HV.out; rw [show j = x1 by omega] at h; rw [sW, h])
          go_wp2
          go_roundw
          case rel => exact ⟨q + 1, S, l, cc, V, HQ.out, by first | rfl | simp, HV2, VL, HBS⟩
          case measure => have := HQ.out; simp [intOf] <;> omega
    · have HV2 : Hid (V = sW f b1 x1 m1) := Lib.hid (by have h := HV.out; rw [show q = m1 by omega] at h; exact h)
      have qs : wr.cell? ⟨sb, 0, none⟩ = some (.slice S l cc) := (HBS.out.get (.head _)).2.2.cell 0
      have qz : wr.cell? ⟨zb, 0, none⟩ = some (.slice none 0 0) := (HBS.out.get (.tail _ (.head _))).2.2.cell 0
      have fz : wr.frozen? ⟨zb, 0, none⟩ = false := (HBS.out.get (.tail _ (.head _))).2.2.frozen 0
      have HB9 := Lib.hid HBS.out.below
      go_wp2
      refine bodyPost_ret (v := .tuple #[.agg #[.slice S l cc], .int .i64 0]) (by simp [results, Tryz.results24, go_sem, qz]) rfl ?_
      rw [← HV2.out]
      exact ⟨⟨S, l, cc, rfl, VL.out.1, (VL.out.put (by have := HNE.out; omega) _).2.1, VL.out.2.2.mono (by have := HNE.out; omega)⟩, bse HB9.out HNE.out.2.2.1 _ _⟩
set_option maxHeartbeats 8000000 in
set_option maxRecDepth 100000 in
theorem winning_tg (w : World) {m n b c x : Nat} {D : Option Addr} {T k : Nat} {P Q : Nat → Nat} (hG : Gs m n b c x T k P Q) (hD : Cells w D (T * 6) (Six P Q)) {t : Nat} (ht : t < T) : Calls Tryz.prog 10 #[.agg (tg m n b c x D T k), .int .i64 (t : Int)] w fun e w' => Num1 w.heap.size w' e (sW (ta P Q T t m n x b c) (b + 1) (x + 1) (m + 1)) ∧ Below w.heap.size w w' := by
  have HK := Lib.hid (fun (w : World) (hD : Cells w D (T * 6) (Six P Q)) => check_gs w hG hD)
  have HC := Lib.hid (fun (w : World) (hD : Cells w D (T * 6) (Six P Q)) => wsum_tg w hG hD t)
  have HD := Lib.hid hD
  obtain ⟨N, hN⟩ : ∃ N, N = sW (ta P Q T t m n x b c) (b + 1) (x + 1) (m + 1) := ⟨_, rfl⟩
  rw [← hN] at HC ⊢
  have e1 : ((t : Int) < 0) = False := eq_false (by omega)
  have e2 : ((T : Int) ≤ (t : Int)) = False := eq_false (by omega)
  unfold tg at HK HC
  clear hG hD hN
  have BS0 := Lib.hid (box2 w TG TN (tg m n b c x D T k) #[.slice none 0 0])
  unfold tg at BS0 ⊢
  go_enter Tryz.func10, Tryz.ntmps10
  go_upto_region 1 with (fail)
  obtain ⟨wa, hwa⟩ : ∃ wa, wa = ((w.alloc (.cells #[.string lotto, .int .i64 1, .int .i64 200, .int .i64 (m : Int), .int .i64 (n : Int), .int .i64 (b : Int), .int .i64 (c : Int), .int .i64 (x : Int), .int .i64 4, .int .i64 (m : Int), .int .i64 32, .int .i64 1230, .int .i64 30, .int .i64 15, .int .i64 90, .int .i64 5000, .int .i64 0, .int .i64 1, .int .i64 0, .int .i64 0, .slice none 0 0, .slice D T k] TG)).alloc (.cells #[.slice none 0 0] TN)) := ⟨_, rfl⟩
  change Code.wp _ _ _ _ ((w.alloc (.cells #[.string lotto, .int .i64 1, .int .i64 200, .int .i64 (m : Int), .int .i64 (n : Int), .int .i64 (b : Int), .int .i64 (c : Int), .int .i64 (x : Int), .int .i64 4, .int .i64 (m : Int), .int .i64 32, .int .i64 1230, .int .i64 30, .int .i64 15, .int .i64 90, .int .i64 5000, .int .i64 0, .int .i64 1, .int .i64 0, .int .i64 0, .slice none 0 0, .slice D T k] TG)).alloc (.cells #[.slice none 0 0] TN))
  rw [← hwa] at BS0 ⊢
  have HB := Lib.hid BS0.out.below
  obtain ⟨_, lz, kz⟩ := BS0.out.get (.head _)
  obtain ⟨zb, hzb⟩ : ∃ g, g = w.heap.size + 1 := ⟨_, rfl⟩
  rw [← hzb] at kz lz
  rw [show (Value.pointer (some ⟨w.heap.size + 1, 0, none⟩)) = .pointer (some ⟨zb, 0, none⟩) by rw [hzb]]
  have Sz := Lib.hid (show w.heap.size ≤ zb by omega)
  have Kz := Lib.hid kz
  clear kz lz
  obtain ⟨_, lg, kg⟩ := BS0.out.get (.tail _ (.head _))
  obtain ⟨gb, hgb⟩ : ∃ g, g = w.heap.size := ⟨_, rfl⟩
  rw [← hgb] at kg lg
  rw [show (Value.pointer (some ⟨w.heap.size, 0, none⟩)) = .pointer (some ⟨gb, 0, none⟩) by rw [hgb]]
  have Sg := Lib.hid (show w.heap.size ≤ gb by omega)
  have Kg := Lib.hid kg
  clear kg lg
  clear hwa BS0 hgb hzb
  replace HD := Lib.hid (HD.out.below HB.out)
  go_wp2_with (refine wpList_load_row rfl TG _ rfl gb rfl TG _ (0, 0) _ Kg.out Tryz.underlying27 rfl (by kernel_rfl) ?_)
  go_wp2_with fail
  with_reducible refine (HK.out _ HD.out).mono ?_
  rintro e w1 ⟨rfl, hb1⟩
  replace HB := Lib.hid (Below.on HB.out hb1)
  replace Kg := Lib.hid (Kg.out.keep hb1)
  replace Kz := Lib.hid (Kz.out.keep hb1)
  replace HD := Lib.hid (HD.out.below hb1)
  clear hb1
  have g21 : w1.cell? ⟨gb, 21, none⟩ = some (.slice D T k) := Kg.out.cell 21
  go_wp2_with (refine wpList_load_row rfl TG _ rfl gb rfl TG _ (0, 0) _ Kg.out Tryz.underlying27 rfl (by kernel_rfl) ?_)
  go_wp2_with fail
  with_reducible refine (HC.out _ HD.out).mono ?_
  rintro e w2 ⟨⟨D0, l0, c0, rfl, hl0, hc0, hf0⟩, hb1⟩
  have hlz := Kz.out.lt
  have HF2 := Lib.hid (hf0.mono (show w.heap.size ≤ _ by have := Sz.out; omega))
  have HFS := Lib.hid (hc0.set_ hf0 hlz 0 (.slice D0 l0 c0))
  have HL := Lib.hid hl0
  replace HB := Lib.hid (Below.on HB.out hb1)
  replace Kz := Lib.hid (Kz.out.keep hb1)
  have qz : w2.cell? ⟨zb, 0, none⟩ = some (.slice none 0 0) := Kz.out.cell 0
  have fz : w2.frozen? ⟨zb, 0, none⟩ = false := Kz.out.frozen 0
  clear hl0 hc0 hf0 hb1 hlz
  go_wp2
  refine bodyPost_ret (v := .tuple #[.agg #[.slice D0 l0 c0], .int .i64 0]) (by simp [results, Tryz.results10, go_sem, qz]) rfl ?_
  exact ⟨⟨D0, l0, c0, rfl, HL.out, HFS.out, HF2.out⟩, bse HB.out Sz.out _ _⟩

end Tp
end Go.Proofs.YtdcmpnjhomhhiaaGreat
