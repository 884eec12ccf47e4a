/- The walk of the reference's Format. -/
import Derived.Test.YteclghokkdkolaaNatFormat
import Derived.Test.YteclghokkdkolaaNatRDivide
import Derived.Test.YteclghokkdkolaaNatRGcd
import Derived.Test.YteclghokkdkolaaNatRQuo
set_option linter.unusedVariables false
namespace Go.Proofs.Yteclghokkdkolaa
open Go.RowKit

theorem bytes_ne {s : ByteArray} (h : 1 ≤ s.size) : s.toList.isEmpty = false := by
  obtain ⟨⟨l⟩⟩ := s
  have e : (ByteArray.mk ⟨l⟩).size = l.length := rfl
  rw [ByteArray.toList_eq]
  cases l with
  | nil => rw [e] at h; simp at h
  | cons x l => rfl
theorem bytes_eq {s : ByteArray} (h : s.size < 1) : s.toList.isEmpty = true := by
  obtain ⟨⟨l⟩⟩ := s
  have e : (ByteArray.mk ⟨l⟩).size = l.length := rfl
  rw [ByteArray.toList_eq]
  cases l with
  | nil => rfl
  | cons x l => rw [e] at h; simp at h

theorem own_empty {w : World} {base g : Nat} {e : TypeId} (h : Blk w g e #[]) (hb : base ≤ g) : w.ownsRow base e 1 (.slice (some ⟨g, 0, none⟩) 0 0) 0 [] :=
  ⟨rfl, .inr ⟨g, 0, #[], rfl, hb, h, Nat.le_refl _, by unfold maxLen; omega, rfl, rfl⟩⟩
/-- The digit that is carried down, dividing by ten. -/
def trest (y k : Nat) : Nat := y / 65536 ^ k % 10
theorem trest_lt (y k : Nat) : trest y k < 10 := Nat.mod_lt _ (by omega)
theorem trest_top {y n : Nat} (h : Fit16 y n) : trest y n = 0 := by unfold trest; rw [Nat.div_eq_of_lt h]
theorem trest_end (y : Nat) : trest y 0 = y % 10 := by simp [trest]
theorem trest_quo {y k : Nat} : (trest y (k + 1) * 65536 + d16 y k) / 10 = d16 (y / 10) k := (Nt.small_quo (by omega) (by omega)).symm
theorem trest_mod {y k : Nat} : (trest y (k + 1) * 65536 + d16 y k) % 10 = trest y k := (Nt.small_rem (by omega) (by omega)).symm
def tcell (y n : Nat) (F : Nat → Value) (k t : Nat) : Value := if t < k then F t else if t < n then .int .i64 (d16 (y / 10) t : Int) else F t
theorem tcell_next {y n k : Nat} (F : Nat → Value) (hk : k < n) (t : Nat) : tcell y n F k t = if t = k then .int .i64 (d16 (y / 10) k : Int) else tcell y n F (k + 1) t := by
  unfold tcell
  by_cases e : t = k
  · subst e; rw [if_neg (by omega), if_pos hk, if_pos rfl]
  · rw [if_neg e]
    by_cases h : t < k
    · rw [if_pos h, if_pos (by omega)]
    · rw [if_neg h, if_neg (show ¬ t < k + 1 by omega)]
/-- The lowest k digits as a text. -/
def lowt (x k : Nat) : ByteArray := ⟨(Dc.low x k).toArray⟩
theorem lowt_size (x k : Nat) : (lowt x k).size = k := by
  show (Dc.low x k).toArray.size = k
  simp [Dc.low_length]
theorem lowt_next (x k : Nat) : (⟨#[Dc.ch x k]⟩ : ByteArray) ++ lowt x k = lowt x (k + 1) := by
  apply ByteArray.ext
  rw [ByteArray.data_append]
  simp [lowt, Dc.low]
theorem lowt_text {x : Nat} (h : x ≠ 0) : lowt x (Dc.len x) = Dc.text x := by
  unfold lowt Dc.text Dc.bytes
  rw [if_neg h]
def qt (x k : Nat) : Nat := x / 10 ^ k
theorem qt_zero (x : Nat) : qt x 0 = x := by unfold qt; rw [Nat.pow_zero, Nat.div_one]
theorem qt_next (x k : Nat) : qt x k / 10 = qt x (k + 1) := by unfold qt; rw [Nat.div_div_eq_div_mul, Nat.pow_succ]
theorem qt_dig (x k : Nat) : qt x k % 10 = Dc.dg x k := rfl
theorem qt_pos {x k : Nat} (h : 0 < qt x k) : 10 ^ k ≤ x := by
  rcases Nat.lt_or_ge x (10 ^ k) with h2 | h2
  · unfold qt at h; rw [Nat.div_eq_of_lt h2] at h; omega
  · exact h2
theorem qt_end {x k : Nat} (h : qt x k = 0) (h1 : k = 0 ∨ 10 ^ (k - 1) ≤ x) : Dc.len x = k := by
  refine Nt.len_eq (by omega) ?_ h1
  rcases Nat.lt_or_ge x (10 ^ k) with h2 | h2
  · exact h2
  · unfold qt at h
    have := Nat.div_pos h2 (Nat.pow_pos (show 0 < 10 by omega))
    omega
theorem qt_len {x k : Nat} (h : 10 ^ k ≤ x) (h64 : L32 x ≤ 64) : k ≤ 616 := by
  have h2 := Dc.len_le h64
  rcases Nat.lt_or_ge k (Dc.len x) with h4 | h4
  · omega
  · have h5 : x < 10 ^ Dc.len x := Nt.lt_pow_len (b := 10) (by omega) x
    have h6 := Nat.pow_le_pow_right (n := 10) (by omega) h4
    omega

set_option maxHeartbeats 8000000 in
set_option maxRecDepth 100000 in
theorem rformat_any {D : Option Addr} {n c x : Nat} {w : World} (hn : n ≤ 64) (hnx : n = L32 x) (hx0 : x ≠ 0) (hx : Cells w D n (Lm (d32 x))) :
    Calls Try.prog 64 #[.agg #[.slice D n c]] w fun e w' => e = .returned (.string (Dc.text x)) ∧ Below w.heap.size w w' := by
  obtain ⟨i0, hi, hz0, hz1, hz2⟩ := info_parts Try.infoI
  have hv := Lib.hid (vd_true hn hnx)
  have HX := Lib.hid hnx
  have HX0 := Lib.hid hx0
  have HB0 := Lib.hid ((Below.refl w.heap.size w).alloc (Nat.le_refl _) (.cells #[.slice D n c] 24))
  have HK0 := Lib.hid (Blk.new w 24 #[.slice D n c])
  have hx64 : L32 x ≤ 64 := by rw [← hnx]; exact hn
  have lx := L16_128 hx64
  have hxp := L16_pos (x := x) (by omega)
  clear hnx hx0
  go_enter Try.func64, Try.ntmps64
  go_wp2_with fail
  refine (rvalid_is (by omega) (hx.below HB0.out) hv.out).mono ?_
  rintro e w1 ⟨rfl, hb1⟩
  have HB1 := Lib.hid (Below.on HB0.out hb1)
  have HK1 := Lib.hid (HK0.out.keep hb1)
  have q0 : w1.cell? ⟨w.heap.size, 0, none⟩ = some (.slice D n c) := HK1.out.cell 0
  have hsz1 := HK1.out.lt
  clear hb1
  go_wp2_with fail
  refine (halves_any (x := x) (by omega) HX.out (hx.below (HB1.out.alloc HB1.out.size _))).mono ?_
  rintro e w2 ⟨Dh, ch, rfl, hlh, hch, hfh, hbh⟩
  have HE2 := Lib.hid ((Blk.new w1 3 #[]).keep hbh)
  have HB2 := Lib.hid (Below.on (HB1.out.alloc HB1.out.size (.cells #[] 3)) hbh)
  have hs2 := HE2.out.lt
  obtain ⟨ba, oa, rfl, hlta, _⟩ := hch hxp
  have HC2 := Lib.hid hch
  clear hch hbh hfh HK1 q0
  obtain ⟨l, hl⟩ : ∃ l, l = L16 x := ⟨_, rfl⟩
  rw [← hl] at hlh HC2 hxp lx ⊢
  have HL := Lib.hid hl
  clear hl
  go_wp2_with (at_builtin; refine wpList_append_own _ rfl _ _ 71 rfl (w.heap.size + 1) 3 i0 (.int .i64 0) 1 8 Try.underlying71 hi hz0 hz1 hz2 rfl (by decide) (.slice (some ⟨w1.heap.size, 0, none⟩) 0 0) 0 [] rfl (own_empty HE2.out hsz1) ⟨ba, oa, none⟩ l ch (row l (Dg (d16 x))) rfl ?c0 ?c1 ?c2 ?c3 ?c4 ?c5 ?_)
  case c0 => rw [row_length, Nat.mul_one]
  case c1 =>
    intro j u hj
    have hjn : j < l := by
      rcases Nat.lt_or_ge j l with h | h
      · exact h
      · rw [List.getElem?_eq_none (by rw [row_length]; exact h)] at hj; cases hj
    rw [row_get hjn] at hj
    injection hj with hj
    rw [← hj]
    exact HC2.out.at_add hjn
  case c2 =>
    intro u hu
    unfold row at hu
    obtain ⟨j, _, rfl⟩ := List.mem_map.1 hu
    rfl
  case c3 => unfold maxLen; omega
  case c4 => omega
  case c5 => omega
  intro v' w3 hown' hgrow _
  have HO : Hid (w3.ownsRow (w.heap.size + 1) 3 1 v' l (row (l * 1) (Dg (d16 x)))) := by
    rw [Nat.mul_one]
    try simp only [Nat.zero_add, List.nil_append] at hown'
    exact hown'
  have HB3 := Lib.hid (HB2.out.grown hgrow (by omega) fun j hj => by injection hj with hj; subst hj; exact Nat.le_of_lt hsz1)
  clear hown' hgrow HC2 HE2
  obtain ⟨g, cap, rfl⟩ := own_some HO.out hxp
  obtain ⟨F0, hA, hcap, hbg, hF⟩ := Arr.of_own HO.out
  have HA3 := Lib.hid hA
  have HF3 := Lib.hid hF
  clear hA hF HO
  go_wp2
  go_loopg [3, 4] x (fun gh s3 s4 wr => ∃ (k y : Nat) (D1 : Option Addr) (c1 : Nat), y ≤ gh ∧ s3 = .slice D1 (L16 y) c1 ∧ s4 = .string (lowt x k) ∧ L16 y ≤ c1 ∧ L16 y ≤ 128 ∧ k ≤ 617 ∧ Hid (y = qt x k) ∧ Hid (k = 0 ∨ 10 ^ (k - 1) ≤ x) ∧ Hid (0 < L16 y → L16 y ≤ cap ∧ D1 = some ⟨g, 0, none⟩ ∧ ∃ F, Arr wr g 3 cap F ∧ ∀ j, j < L16 y → F j = .int .i64 (d16 y j : Int)) ∧ Hid (Below w.heap.size w wr))
  case atStart =>
    refine ⟨0, x, some ⟨g, 0, none⟩, cap, Nat.le_refl _, by rw [← HL.out], rfl, by rw [← HL.out]; exact hcap, by rw [← HL.out]; exact lx, by omega, Lib.hid (qt_zero x).symm, .inl rfl, Lib.hid fun _ => ⟨by rw [← HL.out]; exact hcap, rfl, F0, HA3.out, fun j hj => HF3.out j (by rw [HL.out]; exact hj)⟩, HB3⟩
  case round =>
    obtain ⟨wo, rfl⟩ : ∃ wo : World, wo = wr := ⟨_, rfl⟩
    obtain ⟨k, y, D1, c1, hgk, rfl, rfl, hlc, hl128, hk617, HY, HM, HAr, HB⟩ := hrel
    by_cases hy : 0 < L16 y
    · obtain ⟨hc1, rfl, F, hA, hF⟩ := HAr.out hy
      have hy0 : 0 < y := by
        rcases Nat.eq_zero_or_pos y with h | h
        · rw [h, L16_zero.2 rfl] at hy; omega
        · exact h
      have HP := Lib.hid (qt_pos (x := x) (k := k) (by rw [← HY.out]; exact hy0))
      have hk616 := qt_len HP.out hx64
      have HF := Lib.hid hF
      have HA0 := Lib.hid (Arr.congr hA (F' := tcell y (L16 y) F (L16 y)) fun j _ => by
        unfold tcell
        by_cases h : j < L16 y
        · rw [if_pos h]
        · rw [if_neg h, if_neg h])
      have HR0 := Lib.hid (trest_top (fit16_len y))
      clear hA hF HAr
      obtain ⟨m, hm⟩ : ∃ m, m = L16 y := ⟨_, rfl⟩
      rw [← hm] at hlc hc1 hl128 hy HA0 HF HR0 ⊢
      have HMM := Lib.hid hm
      clear hm
      go_wp2
      go_loopw [5, 6] (fun s5 s6 wr => ∃ i : Nat, i ≤ m ∧ s6 = .int .i64 ((i : Int) - 1) ∧ s5 = .int .i64 (trest y i : Int) ∧ Hid (Arr wr g 3 cap (tcell y m F i)) ∧ Hid (Below w.heap.size w wr)) (fun _ s6 _ => (intOf s6 + 1).toNat)
      case atStart => exact ⟨m, Nat.le_refl _, rfl, by rw [HR0.out]; rfl, HA0, HB⟩
      case round =>
        obtain ⟨i, him, rfl, rfl, HAi, HBi⟩ := hrel
        by_cases hi0 : 0 < i
        · obtain ⟨j, rfl⟩ : ∃ j, i = j + 1 := ⟨i - 1, by omega⟩
          have ej : ((j + 1 : Nat) : Int) - 1 = (j : Int) := by omega
          rw [ej]
          clear ej
          obtain ⟨hc, hf⟩ := HAi.out.at_ (show j < cap by omega)
          have hc2 : wr.cell? ⟨g, j, none⟩ = some (.int .i64 (d16 y j : Int)) := by rw [hc]; unfold tcell; rw [if_pos (by omega), HF.out j (by omega)]
          have hd := d16_lt y j
          have hr := trest_lt y (j + 1)
          have hr2 := trest_lt y j
          have hq := d16_lt (y / 10) j
          obtain ⟨T, hT⟩ : ∃ T, T = trest y (j + 1) * 65536 + d16 y j := ⟨_, rfl⟩
          have hTs : 65536 * (trest y (j + 1) : Int) + (d16 y j : Int) = (T : Int) := by rw [hT]; omega
          have hTq : ((T : Nat) : Int) / 10 = (d16 (y / 10) j : Int) := by rw [hT]; have := trest_quo (y := y) (k := j); omega
          have hTr : ((T : Nat) : Int) % 10 = (trest y j : Int) := by rw [hT]; have := trest_mod (y := y) (k := j); omega
          have hT2 : (T : Int) ≤ 655359 := by omega
          have hU := Lib.hid (fun t => tcell_next (y := y) (n := m) F (show j < m by omega) t)
          have hj0 : (0 : Int) ≤ (j : Int) := by omega
          have hji : (j : Int) < (m : Int) := by omega
          clear hT hc
          go_wp2
          go_roundw
          case rel =>
            rw [hTr]
            have hp := HAi.out.put (k := j) (F' := tcell y m F j) (u := .int .i64 (d16 (y / 10) j : Int)) fun t _ => hU.out t
            exact ⟨j, by omega, rfl, rfl, hp.1, HBi.out.trans ((only_below hp.2 (Nat.le_of_lt HAi.out.lt)).mono (by omega))⟩
          case measure => simp [intOf]
        · obtain rfl : i = 0 := by omega
          have HN2 := Lib.hid (show y / 10 = qt x (k + 1) by rw [HY.out, qt_next])
          have HD := Lib.hid (show trest y 0 = Dc.dg x k by rw [trest_end, HY.out, qt_dig])
          obtain ⟨z, hz⟩ : ∃ z, z = y / 10 := ⟨_, rfl⟩
          have hzy : z < y := by rw [hz]; omega
          have hzl : L16 z ≤ m := by rw [HMM.out]; exact Nt.len_mono (by omega) (Nat.le_of_lt hzy)
          have HCZ := Lib.hid ((HAi.out.cells (o := 0) (n := m) (by omega)).congr (G := Dg (d16 z)) fun t ht => by
            rw [Nat.zero_add]
            unfold tcell Dg
            rw [if_neg (by omega), if_pos ht, hz])
          have HFN := Lib.hid (fun j (hj : j < m) => show tcell y m F 0 j = .int .i64 (d16 z j : Int) by
            unfold tcell
            rw [if_neg (by omega), if_pos hj, hz])
          have HFZ := Lib.hid (show Fit16 z m from fit16_of hzl)
          rw [HD.out]
          rw [← hz] at HN2
          have hdg := Dc.dg_lt x k
          have hls := lowt_size x k
          have HLS := Lib.hid hls
          have HLN := Lib.hid (lowt_next x k)
          have HCH := Lib.hid (Dc.ch_nat x k)
          clear hz hi0 hls HD
          go_wp2_with fail
          refine (rtrim_any (N := z) (by omega) hlc HFZ.out HCZ.out).mono ?_
          rintro e w5 ⟨rfl, rfl⟩
          have hby : Lib.Bytes (wr.alloc (.cells #[.int .u8 (48 + (Dc.dg x k : Int))] 5)) wr.heap.size 0 ⟨#[Dc.ch x k]⟩ := fun t ht => by
            have ht1 : t < 1 := ht
            obtain rfl : t = 0 := by omega
            rw [World.cell?_alloc_at _ _ _ _ rfl]
            show some (Value.int .u8 (48 + (Dc.dg x k : Int))) = some (.int .u8 ((Dc.ch x k).toNat : Int))
            rw [HCH.out]; congr 2
          have hcv : (convert 79 9 (.slice (some ⟨wr.heap.size, 0, none⟩) 1 1)).run Try.prog (wr.alloc (.cells #[.int .u8 (48 + (Dc.dg x k : Int))] 5)) = .ok (.string ⟨#[Dc.ch x k]⟩) (wr.alloc (.cells #[.int .u8 (48 + (Dc.dg x k : Int))] 5)) :=
            Lib.run_convert_whole (P := Try.prog) _ 79 5 9 Try.underlying79 Try.underlying5 Try.underlying9 wr.heap.size 0 ⟨#[Dc.ch x k]⟩ hby 1
          have hadd : ∀ w, (Op.stringOp .add ⟨#[Dc.ch x k]⟩ (lowt x k)).run Try.prog w = .ok (.string (lowt x (k + 1))) w := fun w => by
            have h1 : (⟨#[Dc.ch x k]⟩ : ByteArray).size + (lowt x k).size ≤ 9223372036854775807 := by rw [HLS.out]; show 1 + k ≤ _; omega
            have h2 := run_string_add_sum (P := Try.prog) w ⟨#[Dc.ch x k]⟩ (lowt x k) h1
            rw [HLN.out] at h2
            exact h2
          clear hby
          go_wp2
          go_roundg z
          case measure => omega
          case rel =>
            refine ⟨k + 1, z, some ⟨g, 0, none⟩, c1, Nat.le_refl _, rfl, rfl, by omega, by omega, by omega, HN2, .inr (by rw [Nat.add_sub_cancel]; exact HP.out), Lib.hid fun hz0 => ⟨by omega, rfl, _, Blk.alloc HAi.out _, fun j hj => HFN.out j (by omega)⟩, HBi.out.alloc HBi.out.size _⟩
    · have hz : L16 y = 0 := by omega
      have hyz : y = 0 := L16_zero.1 hz
      have hkl := qt_end (x := x) (k := k) (by rw [← HY.out]; exact hyz) HM.out
      have hzi : ((L16 y : Nat) : Int) = 0 := by omega
      have ht : lowt x k = Dc.text x := by rw [← hkl]; exact lowt_text HX0.out
      have hpos := Dc.text_pos x
      rw [ht]
      clear hkl ht hz hyz HAr
      have hte := bytes_ne (s := Dc.text x) (by omega)
      go_wp2
      go_ret
      exact ⟨rfl, HB.out⟩
end Go.Proofs.Yteclghokkdkolaa
