/- The walks of odds.product, choose, chosen. -/
import Derived.Test.YtdcmpnjhomhhiaaGreatTopTier
import Derived.Maps.AppendAt
set_option linter.unusedVariables false
namespace Go.Proofs.YtdcmpnjhomhhiaaGreat
open Go.RowKit Fr Fa
namespace Tp
theorem infoN : (Tryz.prog.info? 34).map (fun i => (i.zero, i.size, i.bytes)) = some (some (.agg #[.slice none 0 0]), 1, 24) := by kernel_rfl
theorem cells_at2 {w : World} {D : Option Addr} {n : Nat} {F : Nat → Value} (h : Cells w D n F) {k : Nat} (hk : k < n) : ∃ b off, D = some ⟨b, off, none⟩ ∧ b < w.heap.size ∧ w.cell? ⟨b, off + k, none⟩ = some (F k) := by
  obtain ⟨b, off, e, hlt, hc⟩ := h (by omega)
  exact ⟨b, off, e, hlt, hc k hk⟩
/-- The value of a number. -/
def El (w : World) (v : Value) (A : Nat) : Prop := ∃ D l c, v = .slice D l c ∧ l = L32 A ∧ Cells w D l (Lm (d32 A))
theorem El.below {w w' : World} {v : Value} {A : Nat} (h : El w v A) (hb : Below w.heap.size w w') : El w' v A := by
  obtain ⟨D, l, c, e, hl, hc⟩ := h
  exact ⟨D, l, c, e, hl, hc.below hb⟩
/-- The product of the first numbers. -/
def pr (X : Nat → Nat) : Nat → Nat
  | 0 => 1
  | i + 1 => pr X i * X i
theorem pr_le {X : Nat → Nat} {B : Nat} : ∀ {n}, (∀ i, i < n → X i ≤ B) → pr X n ≤ B ^ n
  | 0, _ => by simp [pr]
  | n + 1, h => by rw [pr, Nat.pow_succ]; exact Nat.mul_le_mul (pr_le fun i hi => h i (by omega)) (h n (by omega))
theorem len2 {N : Nat} (h : N < 18446744073709551616) : L32 N ≤ 64 := Nat.le_trans (fit32_le (N := N) (n := 2) (by unfold Fit32; exact h)) (by omega)
set_option maxHeartbeats 8000000 in
set_option maxRecDepth 100000 in
theorem product_any {A : Option Addr} {n c : Nat} {G : Nat → Value} {X : Nat → Nat} {w : World} (hn : n ≤ 1000) (hA : Cells w A n G) (hX : ∀ i, i < n → El w (G i) (X i)) (hx64 : ∀ i, i < n → L32 (X i) ≤ 64) (hfit : ∀ i, i ≤ n → L32 (pr X i) ≤ 64) :
    Calls Tryz.prog 57 #[.slice A n c] w fun e w' => Num1 w.heap.size w' e (pr X n) ∧ Below w.heap.size w w' := by
  have BS0 := Lib.hid (box1z w (.slice none 0 0))
  have HA := Lib.hid hA
  have HX := Lib.hid hX
  have HX64 := Lib.hid hx64
  have HFIT := Lib.hid hfit
  clear hA hX hx64 hfit
  go_enter Tryz.func57, Tryz.ntmps57
  go_wp2_with fail
  refine (of_new 1 (by omega) _).mono ?_
  rintro e w2 ⟨D0, c0, rfl, _, hc0, hf0, hb2⟩
  obtain ⟨l0, hl0⟩ : ∃ l, l = L32 1 := ⟨_, rfl⟩
  rw [← hl0] at hc0 ⊢
  have HL0 : Hid (l0 = L32 (pr X 0)) := Lib.hid (by rw [hl0, pr])
  have BS2 := (BS0.out.on hb2).alloc TN #[.slice D0 l0 c0]
  have HC0 : Hid (Cells (w2.alloc (.cells #[.slice D0 l0 c0] TN)) D0 l0 (Lm (d32 (pr X 0)))) := Lib.hid (by rw [pr]; exact hc0.alloc _)
  obtain ⟨wa, hwa⟩ : ∃ wa, wa = w2.alloc (.cells #[.slice D0 l0 c0] TN) := ⟨_, rfl⟩
  obtain ⟨pb, hpb⟩ : ∃ b, b = w2.heap.size := ⟨_, rfl⟩
  obtain ⟨z, hz⟩ : ∃ b, b = w.heap.size := ⟨_, rfl⟩
  have hzp : z ≠ pb := by have := ((BS0.out.on hb2).get (.head _)).2.1; omega
  have hpw : w.heap.size ≤ pb := by have := (BS0.out.on hb2).below.size; omega
  have hzw : w.heap.size ≤ z := by omega
  have HF0 : Hid (Fresh (z + 1) D0) := Lib.hid (hf0.mono (by rw [World.size_alloc]; omega))
  rw [← hwa] at BS2 HC0
  rw [← hpb, ← hz] at BS2
  have BSL := Lib.hid BS2
  clear BS2 hc0 hf0 hl0 hb2 BS0
  go_wp2
  change Code.wp _ _ _ _ (w2.alloc (.cells #[.slice D0 l0 c0] TN))
  rw [← hwa]
  rw [show (Value.pointer (some ⟨w2.heap.size, 0, none⟩)) = .pointer (some ⟨pb, 0, none⟩) by rw [hpb], show (Value.pointer (some ⟨w.heap.size, 0, none⟩)) = .pointer (some ⟨z, 0, none⟩) by rw [hz]]
  clear hwa hpb hz
  go_loopw [11] (fun s11 wr => ∃ (k : Nat) (D : Option Addr) (l d : Nat), k ≤ n ∧ s11 = .int .i64 (k : Int) ∧ Hid (l = L32 (pr X k)) ∧ Hid (Cells wr D l (Lm (d32 (pr X k)))) ∧ Hid (Fresh (z + 1) D) ∧ Hid (Bs w wr [(pb, TN, #[.slice D l d]), (z, TN, #[.slice none 0 0])])) (fun i _ => n - (intOf i).toNat)
  case atStart => exact ⟨0, D0, l0, c0, Nat.zero_le _, rfl, HL0, HC0, HF0, BSL⟩
  case round =>
    clear HL0 HC0 HF0 BSL
    obtain ⟨k, D, l, d, hk, rfl, HL, HC, HF, HBS⟩ := hrel
    have qp : wr.cell? ⟨pb, 0, none⟩ = some (.slice D l d) := (HBS.out.get (.head _)).2.2.cell 0
    have lp := (HBS.out.get (.head _)).2.1
    by_cases hkn : k < n
    · have HKN := Lib.hid hkn
      obtain ⟨b1, o1, hA1, hlt1, hc1⟩ := Tp.cells_at2 (HA.out.below HBS.out.below) hkn
      obtain ⟨Dx, lx, cx, hG, hlx, hcx⟩ := (HX.out k hkn).below HBS.out.below
      rw [hG] at hc1
      subst hA1
      have HLX := Lib.hid hlx
      have HCX := Lib.hid (hcx.alloc (.cells #[.slice Dx lx cx] TN))
      have HC2 := Lib.hid (HC.out.alloc (.cells #[.slice Dx lx cx] TN))
      have l64 : l ≤ 64 := by rw [HL.out]; exact HFIT.out k (by omega)
      have lx64 : lx ≤ 64 := by rw [hlx]; exact HX64.out k hkn
      have BS3 := Lib.hid (HBS.out.alloc TN #[.slice Dx lx cx])
      clear hG hlx hcx HC HBS hkn
      go_wp2_with fail
      refine (mul_any (x := pr X k) (y := X k) l64 lx64 HL.out HLX.out HC2.out HCX.out).mono ?_
      rintro e w4 ⟨hr, hb⟩
      rcases hr with ⟨_, Dn, cn, rfl, _, hcn, hfn⟩ | ⟨h9, _⟩
      case inr => exact absurd h9 (by have := HFIT.out (k + 1) HKN.out; rw [pr] at this; omega)
      obtain ⟨ln, hln⟩ : ∃ l, l = L32 (pr X k * X k) := ⟨_, rfl⟩
      rw [← hln] at hcn ⊢
      have HLN : Hid (ln = L32 (pr X (k + 1))) := Lib.hid (by rw [hln, pr])
      have HCN : Hid (Cells w4 Dn ln (Lm (d32 (pr X (k + 1))))) := Lib.hid (by rw [pr]; exact hcn)
      have BS4 := Lib.hid (BS3.out.on hb)
      have HFN := Lib.hid (hfn.mono (show z + 1 ≤ _ from (BS3.out.get (.tail _ (.tail _ (.head _)))).2.1))
      have HFP := Lib.hid (show Apart pb Dn from Apart.of_fresh hfn (BS3.out.get (.tail _ (.head _))).2.1)
      clear hln hcn hfn hb qp lp BS3
      obtain ⟨_, lb, kb⟩ := BS4.out.get (.tail _ (.head _))
      have qb : w4.cell? ⟨pb, 0, none⟩ = some (.slice D l d) := kb.cell 0
      have fb : w4.frozen? ⟨pb, 0, none⟩ = false := kb.frozen 0
      clear kb
      unfold natv
      go_wp2
      go_roundw
      case rel =>
        refine ⟨k + 1, Dn, ln, cn, HKN.out, by go_num, HLN, ?_, HFN, ?_⟩
        · exact Lib.hid (HCN.out.apart HFP.out 0 _)
        · refine Lib.hid (Bs.put (cs := #[.slice D l d]) (BS4.out.sub fun x hx => .tail _ hx) ?_ 0 _)
          intro b' t' cs' hb
          simp at hb
          omega
      case measure => have := HKN.out; simp [intOf] <;> omega
    · obtain rfl : k = n := by omega
      obtain ⟨_, lz, kz⟩ := HBS.out.get (.tail _ (.head _))
      have qz : wr.cell? ⟨z, 0, none⟩ = some (.slice none 0 0) := kz.cell 0
      have fz : wr.frozen? ⟨z, 0, none⟩ = false := kz.frozen 0
      have HB7 := Lib.hid HBS.out.below
      clear kz
      go_wp2
      refine bodyPost_ret (v := .tuple #[.agg #[.slice D l d], .int .i64 0]) (by simp [results, Tryz.results57, go_sem, qz]) rfl ?_
      exact ⟨⟨D, l, d, rfl, HL.out, HC.out.set_ HF.out (Nat.lt_succ_self z) _ _, HF.out.mono (by omega)⟩, bse HB7.out hzw _ _⟩
/-- The binomial coefficient, 0 for a negative number. -/
def czi (n k : Int) : Nat := if n < 0 then 0 else cz n.toNat k
set_option maxHeartbeats 2000000 in
theorem choose_i (w : World) {n : Int} (hn : n ≤ 80) (k : Int) : Calls Tryz.prog 58 #[.int .i64 n, .int .i64 k] w fun e w' => Num1 w.heap.size w' e (czi n k) ∧ Below w.heap.size w w' := by
  have BS0 := Lib.hid (box1z w (.slice none 0 0))
  by_cases h : n < 0
  · have hz : czi n k = 0 := by unfold czi; rw [if_pos h]
    rw [hz]
    obtain ⟨_, lz, kz⟩ := BS0.out.get (.head _)
    have HB := Lib.hid BS0.out.below
    have qz : (w.alloc (.cells #[.slice none 0 0] TN)).cell? ⟨w.heap.size, 0, none⟩ = some (.slice none 0 0) := kz.cell 0
    have fz : (w.alloc (.cells #[.slice none 0 0] TN)).frozen? ⟨w.heap.size, 0, none⟩ = false := kz.frozen 0
    clear kz hz hn
    go_enter Tryz.func58, Tryz.ntmps58
    go_wp2
    refine bodyPost_ret (v := .tuple #[.agg #[.slice none 0 0], .int .i64 0]) (by simp [results, Tryz.results58, go_sem, qz]) rfl ?_
    exact ⟨num_zero rfl (fun a ha => by cases ha), HB.out⟩
  · obtain ⟨m, rfl⟩ := Int.eq_ofNat_of_zero_le (show 0 ≤ n by omega)
    have hz : czi (m : Int) k = cz m k := by unfold czi; rw [if_neg h]; rfl
    rw [hz]
    have HC := Lib.hid (fun w => choose_any w (n := m) (by omega) k)
    obtain ⟨N, hN⟩ : ∃ N, N = cz m k := ⟨_, rfl⟩
    rw [← hN] at HC ⊢
    have h2 : ((m : Int) < 0) = False := eq_false (by omega)
    clear h hz hN hn
    go_enter Tryz.func58, Tryz.ntmps58
    go_wp2_with fail
    with_reducible refine (HC.out _).mono ?_
    rintro e w2 ⟨⟨D0, l0, c0, rfl, hl0, hc0, hf0⟩, hb2⟩
    have HL := Lib.hid hl0
    have HCC := Lib.hid hc0
    have BS1 := Lib.hid (BS0.out.on hb2)
    have HF := Lib.hid hf0
    clear hl0 hc0 hf0 hb2
    obtain ⟨_, lz, kz⟩ := BS1.out.get (.head _)
    have HB := Lib.hid BS1.out.below
    have qz : w2.cell? ⟨w.heap.size, 0, none⟩ = some (.slice none 0 0) := kz.cell 0
    have fz : w2.frozen? ⟨w.heap.size, 0, none⟩ = false := kz.frozen 0
    have hsz : w.heap.size < (w.alloc (.cells #[.slice none 0 0] TN)).heap.size := by rw [World.size_alloc]; omega
    have HF2 := Lib.hid (HF.out.mono BS0.out.below.size)
    have HFS := Lib.hid (HCC.out.set_ HF.out hsz 0 (.slice D0 l0 c0))
    clear kz hsz
    go_wp2
    refine bodyPost_ret (v := .tuple #[.agg #[.slice D0 l0 c0], .int .i64 0]) (by simp [results, Tryz.results58, go_sem, qz]) rfl ?_
    exact ⟨⟨D0, l0, c0, rfl, HL.out, HFS.out, HF2.out⟩, bse HB.out (Nat.le_refl _) _ _⟩
/-- The values of a row of numbers, which lie off the row's block. -/
def Els (w : World) (v : Value) (xs : List Value) (X : Nat → Nat) : Prop := ∀ i u, xs[i]? = some u → ∃ D l c, u = .slice D l c ∧ l = L32 (X i) ∧ Cells w D l (Lm (d32 (X i))) ∧ (0 < l → ∀ g, v.ownBlock = some g → Apart g D)
theorem Els.nil (w : World) (v : Value) (X : Nat → Nat) : Els w v [] X := fun i u h => by simp at h
theorem Els.below {w w' : World} {v : Value} {xs : List Value} {X : Nat → Nat} (h : Els w v xs X) (hb : Below w.heap.size w w') : Els w' v xs X := fun i u hu => by
  obtain ⟨D, l, c, e, hl, hc, ha⟩ := h i u hu
  exact ⟨D, l, c, e, hl, hc.below hb, ha⟩
theorem Els.app {w w' : World} {v v' : Value} {xs : List Value} {X : Nat → Nat} {k : Nat} {D : Option Addr} {l c : Nat} (h : Els w v xs X) (hg : w.grownBy w' v.ownBlock) (hv : v'.ownBlock = v.ownBlock ∨ v'.ownBlock = some w.heap.size) (hk : xs.length = k) (hl : l = L32 (X k)) (hc : Cells w D l (Lm (d32 (X k)))) (ha : ∀ g, v.ownBlock = some g → Apart g D) : Els w' v' (xs ++ [.slice D l c]) X := by
  have key : ∀ {D : Option Addr} {l : Nat} {G : Nat → Value}, Cells w D l G → (0 < l → ∀ g, v.ownBlock = some g → Apart g D) → Cells w' D l G ∧ (0 < l → ∀ g, v'.ownBlock = some g → Apart g D) := by
    intro D l G hc ha
    refine ⟨fun h0 => ?_, fun h0 g hg' => ?_⟩
    · cases e : v.ownBlock with
      | none =>
        rw [e] at hg
        exact hc.below ⟨hg.os, hg.tape, hg.output, hg.size, fun k hk => hg.block k hk (by simp)⟩ h0
      | some g =>
        rw [e] at hg
        exact hc.grown (ha h0 g e) hg h0
    · rcases hv with hv | hv
      · exact ha h0 g (hv.symm.trans hg')
      · rw [hv] at hg'
        injection hg' with hg'
        obtain ⟨b, off, e, hlt, _⟩ := hc h0
        intro a ha'
        rw [e] at ha'
        injection ha' with ha'
        subst ha'
        show b ≠ g
        omega
  intro i u hu
  rcases Nat.lt_or_ge i k with h1 | h1
  · rw [List.getElem?_append_left (by omega)] at hu
    obtain ⟨D2, l2, c2, e, hl2, hc2, ha2⟩ := h i u hu
    have := key hc2 ha2
    exact ⟨D2, l2, c2, e, hl2, this.1, this.2⟩
  · rw [List.getElem?_append_right (by omega)] at hu
    have hik : i - xs.length = 0 := by
      rcases Nat.eq_zero_or_pos (i - xs.length) with h2 | h2
      · exact h2
      · rw [List.getElem?_eq_none (by simp; omega)] at hu
        cases hu
    rw [hik] at hu
    simp at hu
    obtain rfl : i = k := by omega
    have := key hc (fun _ => ha)
    exact ⟨D, l, c, hu.symm, hl, this.1, this.2⟩
theorem list_row (xs : List Value) : xs = row (xs.length * 1) (fun i => xs.getD i undef) := by
  rw [Nat.mul_one]
  refine List.ext_getElem (by simp [row]) fun i h1 h2 => ?_
  simp [row, List.getD_eq_getElem?_getD, List.getElem?_eq_getElem h1]
theorem Els.el {w : World} {v : Value} {xs : List Value} {X : Nat → Nat} (h : Els w v xs X) {i : Nat} (hi : i < xs.length) : El w (xs.getD i undef) (X i) := by
  obtain ⟨D, l, c, e, hl, hc, _⟩ := h i xs[i] (List.getElem?_eq_getElem hi)
  exact ⟨D, l, c, by rw [List.getD_eq_getElem?_getD, List.getElem?_eq_getElem hi]; exact e, hl, hc⟩
set_option maxHeartbeats 4000000 in
set_option maxRecDepth 100000 in
theorem chosen_any (w : World) {A : Option Addr} {n c : Nat} {F R : Nat → Int} (hn : n ≤ 6) (hA : Cells w A (n * 2) (Two F R)) (hF : ∀ i, i < n → F i ≤ 80) (hx : ∀ i, i < n → czi (F i) (R i) ≤ 100) : Calls Tryz.prog 39 #[.slice A n c] w fun e w' => Num1 w.heap.size w' e (pr (fun i => czi (F i) (R i)) n) ∧ Below w.heap.size w w' := by
  obtain ⟨i0, hi, hz0, hz1, hz2⟩ := info_parts infoN
  have BS0 := Lib.hid (box1z w (.slice none 0 0))
  have HCH := Lib.hid (fun (w : World) (k : Nat) (hk : k < n) => choose_i w (hF k hk) (R k))
  have HPL : Hid (∀ i, i ≤ n → pr (fun i => czi (F i) (R i)) i < 18446744073709551616) := Lib.hid fun i hi => Nat.lt_of_le_of_lt (pr_le (B := 100) fun j hj => hx j (by omega)) (Nat.lt_of_le_of_lt (Nat.pow_le_pow_right (by omega) (show i ≤ 6 by omega)) (by decide))
  have HXL : Hid (∀ i, i < n → czi (F i) (R i) < 18446744073709551616) := Lib.hid fun i hi => Nat.lt_of_le_of_lt (hx i hi) (by decide)
  obtain ⟨X, hX⟩ : ∃ X : Nat → Nat, X = fun i => czi (F i) (R i) := ⟨_, rfl⟩
  have HX : Hid (∀ i, czi (F i) (R i) = X i) := Lib.hid fun i => by rw [hX]
  rw [← hX] at HPL ⊢
  have HA := Lib.hid hA
  have HP := Lib.hid (fun (w : World) (A : Option Addr) (c : Nat) (G : Nat → Value) (hA : Cells w A n G) (hE : ∀ i, i < n → El w (G i) (X i)) => product_any (c := c) (w := w) (by omega) hA hE (fun i hi => len2 (by rw [← HX.out]; exact HXL.out i hi)) (fun i hi => len2 (HPL.out i hi)))
  clear hA hF hx hX HPL HXL
  go_enter Tryz.func39, Tryz.ntmps39
  go_upto_region 1 with (fail)
  obtain ⟨wa, hwa⟩ : ∃ wa, wa = w.alloc (.cells #[.slice none 0 0] TN) := ⟨_, rfl⟩
  change Code.wp _ _ _ _ (w.alloc (.cells #[.slice none 0 0] TN))
  rw [← hwa] at BS0 ⊢
  obtain ⟨zb, hzb⟩ : ∃ g, g = w.heap.size := ⟨_, rfl⟩
  obtain ⟨_, lz, kz⟩ := BS0.out.get (.head _)
  rw [← hzb] at kz lz
  rw [show (Value.pointer (some ⟨w.heap.size, 0, none⟩)) = .pointer (some ⟨zb, 0, none⟩) by rw [hzb]]
  have HB := Lib.hid BS0.out.below
  have HZ := Lib.hid (show zb = w.heap.size ∧ w.heap.size + 1 ≤ wa.heap.size from ⟨hzb, by omega⟩)
  have KZ := Lib.hid kz
  clear hwa hzb kz lz BS0
  go_wp2
  go_loopw [11, 4] (fun i v wr => ∃ (k : Nat) (xs : List Value), k ≤ n ∧ i = .int .i64 (k : Int) ∧ Hid (xs.length = k) ∧ Hid (wr.ownsRow (w.heap.size + 1) TN 1 v k xs) ∧ Hid (Els wr v xs X) ∧ Hid (Below w.heap.size w wr) ∧ Hid (Blk wr zb TN #[.slice none 0 0])) (fun i _ _ => n - (intOf i).toNat)
  case atStart => exact ⟨0, [], Nat.zero_le _, rfl, Lib.hid rfl, Lib.hid (World.ownsRow_nil _ _ _ _), Lib.hid (Els.nil _ _ _), HB, KZ⟩
  case round =>
    clear HB KZ
    obtain ⟨k, xs, hk, rfl, HLE, HO, HE, HB, KZ⟩ := hrel
    rename World => wr
    obtain ⟨sA, sc, rfl, hsc⟩ := own_slice HO.out
    by_cases hkn : k < n
    · obtain ⟨b, off, hde, hlt, c0, c1⟩ := (HA.out.below HB.out).two hkn
      subst hde
      have HC := Lib.hid (fun w => HCH.out w k hkn)
      have hxk := HX.out k
      rw [hxk] at HC
      have HKN := Lib.hid hkn
      obtain ⟨N, hN⟩ : ∃ N, N = X k := ⟨_, rfl⟩
      rw [← hN] at HC
      have HN := Lib.hid hN
      clear hN hxk
      have HZ0 := Lib.hid HZ.out.1
      have hk6 : k ≤ 6 := by omega
      go_wp2_with fail
      with_reducible refine (HC.out _).mono ?_
      rintro e w2 ⟨⟨D0, l0, cc0, rfl, hl0, hc0, hf0⟩, hb2⟩
      have hbw : Below wr.heap.size wr w2 := Below.on ((Below.refl _ _).alloc (Nat.le_refl _) _) hb2
      have HAP : Hid (∀ g, (Value.slice sA k sc).ownBlock = some g → Apart g D0) := Lib.hid fun g hg => Apart.of_fresh hf0 (by have := (HO.out.lt g hg).2; rw [World.size_alloc]; omega)
      replace HO := Lib.hid (own_keep HO.out hbw)
      replace HE := Lib.hid (HE.out.below hbw)
      replace HB := Lib.hid (Below.on HB.out hbw)
      replace KZ := Lib.hid (KZ.out.keep hbw)
      have HL := Lib.hid hl0
      have HD := Lib.hid hc0
      have hz2 := KZ.out.lt
      clear hl0 hc0 hf0 hb2 hbw c0 c1 HC
      go_upto_region 8 with (fail)
      obtain ⟨wq, hwq⟩ : ∃ wq, wq = w2.alloc (.cells #[.slice D0 l0 cc0] TN) := ⟨_, rfl⟩
      change Code.wp _ _ _ _ (w2.alloc (.cells #[.slice D0 l0 cc0] TN))
      have hbq : Below w2.heap.size w2 wq := by rw [hwq]; exact (Below.refl _ _).alloc (Nat.le_refl _) _
      obtain ⟨nb, hnb⟩ : ∃ g, g = w2.heap.size := ⟨_, rfl⟩
      have hqn : Blk wq nb TN #[.slice D0 l0 cc0] := by rw [hwq, hnb]; exact Blk.new w2 TN _
      have qn : wq.cell? ⟨nb, 0, none⟩ = some (.slice D0 l0 cc0) := hqn.cell 0
      rw [← hwq, show (Value.pointer (some ⟨w2.heap.size, 0, none⟩)) = .pointer (some ⟨nb, 0, none⟩) by rw [hnb]]
      replace HO := Lib.hid ((own_keep HO.out hbq).alloc (.cells #[.slice D0 l0 cc0] TN))
      have hbr := hbq.alloc hbq.size (.cells #[.slice D0 l0 cc0] TN)
      replace HE := Lib.hid (HE.out.below hbr)
      replace HD := Lib.hid (HD.out.below hbr)
      replace HB := Lib.hid (Below.on HB.out hbr)
      replace KZ := Lib.hid (KZ.out.keep hbr)
      have HSZ := Lib.hid (show w.heap.size + 1 ≤ wq.heap.size by have h4 := HZ0.out; have h5 := hbq.size; omega)
      clear hz2 hwq hnb hbq hqn hbr
      go_wp2_with (at_builtin; refine wpList_append_own_at _ rfl _ _ 101 rfl (w.heap.size + 1) TN i0 (.agg #[.slice none 0 0]) 1 24 Tryz.underlying101 hi hz0 hz1 hz2 rfl (by decide) _ _ _ rfl HO.out ⟨wq.heap.size, 0, none⟩ 1 1 [.slice D0 l0 cc0] rfl rfl ?c1 ?c2 ?c3 ?c4 ?c5 ?_)
      case c1 => exact fun j u hu => new_cell rfl (by simpa using hu)
      case c2 => intro u hu; simp at hu; subst hu; rfl
      case c3 => unfold maxLen; omega
      case c4 => omega
      case c5 => have := HSZ.out; rw [World.size_alloc]; omega
      intro v' w3 hown' hgrow _ hat
      have HE4 := Lib.hid (HE.out.app (k := k) (D := D0) (l := l0) (c := cc0) hgrow (by rw [World.size_alloc]; exact hat) HLE.out (by rw [← HN.out]; exact HL.out) (by rw [← HN.out]; exact HD.out) HAP.out)
      have HB4 := Lib.hid (HB.out.grown hgrow HB.out.size fun k hk => by have := (HO.out.lt k hk).1; omega)
      have KZ4 := Lib.hid (KZ.out.grown hgrow fun e => by have := (HO.out.lt zb e.symm).1; have := HZ0.out; omega)
      have HO4 := Lib.hid hown'
      have HLE4 := Lib.hid (show (xs ++ [Value.slice D0 l0 cc0]).length = k + 1 by rw [List.length_append, HLE.out]; rfl)
      clear hown' hgrow hat HO HE HB KZ HD qn
      go_wp2
      go_roundw
      case rel => exact ⟨k + 1, _, HKN.out, by first | rfl | simp, HLE4, HO4, HE4, HB4, KZ4⟩
      case measure => have := HKN.out; simp [intOf] <;> omega
    · obtain rfl : k = n := by omega
      have hcc : Cells wr sA k (fun i => xs.getD i undef) := by
        have h := HO.out
        rw [list_row xs, HLE.out] at h
        have h2 := Cells.of_own h
        rw [Nat.mul_one] at h2
        exact h2
      have HPP := Lib.hid (HP.out wr sA sc _ hcc (fun i hi => HE.out.el (by rw [HLE.out]; exact hi)))
      have HZ0 := Lib.hid HZ.out.1
      obtain ⟨N, hN⟩ : ∃ N, N = pr X k := ⟨_, rfl⟩
      rw [← hN] at HPP
      have HN := Lib.hid hN
      clear hcc hN HP HO HE HLE
      go_wp2_with fail
      with_reducible refine HPP.out.mono ?_
      rintro e w2 ⟨⟨D0, l0, cc0, rfl, hl0, hc0, hf0⟩, hb2⟩
      have hlz := KZ.out.lt
      replace HB := Lib.hid (Below.on HB.out hb2)
      replace KZ := Lib.hid (KZ.out.keep hb2)
      have HL := Lib.hid hl0
      have HF2 := Lib.hid (hf0.mono (show w.heap.size ≤ wr.heap.size by have := HZ0.out; omega))
      have HFS := Lib.hid (hc0.set_ hf0 hlz 0 (.slice D0 l0 cc0))
      have qz : w2.cell? ⟨zb, 0, none⟩ = some (.slice none 0 0) := KZ.out.cell 0
      have fz : w2.frozen? ⟨zb, 0, none⟩ = false := KZ.out.frozen 0
      clear hl0 hc0 hf0 hb2 hlz HPP
      go_wp2
      refine bodyPost_ret (v := .tuple #[.agg #[.slice D0 l0 cc0], .int .i64 0]) (by simp [results, Tryz.results39, go_sem, qz]) rfl ?_
      rw [← HN.out]
      exact ⟨⟨D0, l0, cc0, rfl, HL.out, HFS.out, HF2.out⟩, bse HB.out (by have := HZ0.out; omega) _ _⟩
end Tp
end Go.Proofs.YtdcmpnjhomhhiaaGreat
