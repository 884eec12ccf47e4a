/- The walk of the reference's Parse. -/
import Derived.Test.YthjbkadhgcjnaaaNatParse
import Derived.Test.YthjbkadhgcjnaaaNatRMul
set_option linter.unusedVariables false
namespace Go.Proofs.Ythjbkadhgcjnaaa
open Go.RowKit

theorem Cells.drew_ {w : World} {D : Option Addr} {m : Nat} {G : Nat → Value} (h : Cells w D m G) : Cells w.drew D m G := h.below ((Below.refl _ _).drew)
set_option maxHeartbeats 8000000 in
set_option maxRecDepth 100000 in
theorem rparse_a (s : ByteArray) (w : World) (hpos : 0 < s.size) (hsi : (s.size : Int) ≤ 620) (hte : s.toList.isEmpty = false) (HBIG : Hid (¬ 620 < s.size)) (HNB : Hid (¬ (s.size = 0 ∨ (Dc.sb s 0 = 48 ∧ 1 < s.size)))) (h0 : ((s[0].toNat : Int) == 48) = false) :
    Calls Try.prog 30 #[.string s] w fun e w' => ParseRes w' e s ∧ Below w.heap.size w w' := by
  have HB0 := Lib.hid ((Below.refl w.heap.size w).alloc (Nat.le_refl _) (.cells #[.slice none 0 0] 24))
  have HK0 := Lib.hid (Blk.new w 24 #[.slice none 0 0])
  have H10 := Lib.hid (show (1 : Nat) = L16 10 from (Nt.len_eq (by omega) (by omega) (.inr (by omega))).symm)
  have hl10 := Lib.hid (fun j (hj : j < 1) => show (#[Value.int .i64 10])[j]? = some (Dg (d16 10) j) by
    obtain rfl : j = 0 := by omega
    rfl)
  go_enter Try.func30, Try.ntmps30
  go_wp2
  go_loopw [4, 5] (fun s4 s5 wr => ∃ (k : Nat) (D : Option Addr) (c : Nat), k ≤ s.size ∧ s5 = .int .i64 (k : Int) ∧ s4 = .slice D (L16 (Dc.pv s k)) c ∧ L16 (Dc.pv s k) ≤ c ∧ Hid (Dc.alld s k = true) ∧ Hid (Cells wr D (L16 (Dc.pv s k)) (Dg (d16 (Dc.pv s k)))) ∧ Hid (Below w.heap.size w wr) ∧ Hid (Blk wr w.heap.size 24 #[.slice none 0 0])) (fun _ s5 _ => s.size - (intOf s5).toNat)
  case atStart =>
    have hl0 : L16 (Dc.pv s 0) = 0 := L16_zero.2 rfl
    exact ⟨0, none, 0, Nat.zero_le _, rfl, by rw [hl0], by rw [hl0]; exact Nat.le_refl _, rfl, by rw [hl0]; exact Cells.nil, HB0, HK0⟩
  case round =>
    obtain ⟨k, D, c, hk, rfl, rfl, hlc, HAL, HC, HB, HK⟩ := hrel
    have q0 : wr.cell? ⟨w.heap.size, 0, none⟩ = some (.slice none 0 0) := HK.out.cell 0
    have f0 : wr.frozen? ⟨w.heap.size, 0, none⟩ = false := HK.out.frozen 0
    have hnl := pv_len16 HAL.out
    obtain ⟨N, hN⟩ : ∃ N, N = Dc.pv s k := ⟨_, rfl⟩
    rw [← hN] at hlc HC hnl ⊢
    have HN := Lib.hid hN
    clear hN
    by_cases hks : k < s.size
    · have hsk := Dc.sb_at hks
      by_cases hd : 48 ≤ Dc.sb s k ∧ Dc.sb s k ≤ 57
      · have HAL2 := Lib.hid (show Dc.alld s (k + 1) = true by simp only [Dc.alld]; rw [HAL.out, Dc.isd_yes hd.1 hd.2]; rfl)
        have hnl2 := pv_len16 HAL2.out
        obtain ⟨d, hdd⟩ : ∃ d, d = Dc.sb s k - 48 := ⟨_, rfl⟩
        have hd10 : d < 10 := by omega
        have hds : (s[k].toNat : Int) - 48 = (d : Int) := by rw [hsk]; omega
        have hwr : IntKind.i64.wrap (d : Int) = (d : Int) := IntWalk.i64_in _ (by omega)
        have hsl : (48 : Int) ≤ (s[k].toNat : Int) := by rw [hsk]; omega
        have hsh : (s[k].toNat : Int) ≤ 57 := by rw [hsk]; omega
        have hwr0 : IntKind.i64.wrap (s[k].toNat : Int) = (s[k].toNat : Int) := IntWalk.i64_in _ (by omega)
        have HM := Lib.hid (show Dc.pv s (k + 1) = N * 10 + d by rw [pv_next, HN.out, hdd])
        rw [HM.out] at hnl2
        have hnl3 : L16 (N * 10) ≤ 620 := Nat.le_trans (Nt.len_mono (by omega) (show N * 10 ≤ N * 10 + d by omega)) (by show L16 (N * 10 + d) ≤ 620; omega)
        have hdl : L16 d ≤ 1 := Nt.len_le (by omega) (by omega)
        have HFD := Lib.hid (show Fit16 d 1 from fit16_of hdl)
        have hld := Lib.hid (fun j (hj : j < 1) => show (#[Value.int .i64 (d : Int)])[j]? = some (Dg (d16 d) j) by
          obtain rfl : j = 0 := by omega
          have e : d16 d 0 = d := by unfold d16 Nt.dig; rw [Nat.pow_zero, Nat.div_one]; omega
          show some (Value.int .i64 (d : Int)) = some (Value.int .i64 (d16 d 0 : Int))
          rw [e])
        have hcap1 : (1 : Nat) ≤ 1 := Nat.le_refl _
        clear hd hdd hsk HAL
        go_wp2
        go_region_held3 (fun _ => True) (trivial)
          (first
            | (go_at_call 43; with_reducible refine (rmul_any (x := N) (y := 10) (by omega) (by omega) rfl H10.out ?_ ?_).mono ?_; (focus repeat' (first | (with_reducible exact HC.out) | (with_reducible exact hc5) | (with_reducible refine Cells.lit ?_ hl10.out; first | rfl | (simp; done)) | (with_reducible refine Cells.lit ?_ hld.out; first | rfl | (simp; done)) | (with_reducible refine Cells.drew_ ?_) | (with_reducible refine Cells.alloc ?_ _) | (with_reducible refine Cells.below ?_ hb5))); (focus repeat' (first | (with_reducible exact HC.out) | (with_reducible exact hc5) | (with_reducible refine Cells.lit ?_ hl10.out; first | rfl | (simp; done)) | (with_reducible refine Cells.lit ?_ hld.out; first | rfl | (simp; done)) | (with_reducible refine Cells.drew_ ?_) | (with_reducible refine Cells.alloc ?_ _) | (with_reducible refine Cells.below ?_ hb5))); rintro e w5 ⟨D5, c5, rfl, hl5, hc5, hf5, hb5⟩; have K5 : Below wr.heap.size wr w5 := (by first | exact bl_on (bl_drew (bl_alloc (Below.refl _ _) _)) hb5 | exact bl_on (bl_drew (bl_alloc (bl_alloc (Below.refl _ _) _) _)) hb5 | exact bl_on (bl_alloc (bl_drew (Below.refl _ _)) _) hb5 | exact bl_on (bl_alloc (bl_alloc (bl_drew (Below.refl _ _)) _) _) hb5))
            | (go_at_call 51; with_reducible refine (rtrim_any (m := 1) (N := d) (by omega) (Nat.le_refl _) HFD.out ?_).mono ?_; (focus repeat' (first | (with_reducible exact HC.out) | (with_reducible exact hc5) | (with_reducible refine Cells.lit ?_ hl10.out; first | rfl | (simp; done)) | (with_reducible refine Cells.lit ?_ hld.out; first | rfl | (simp; done)) | (with_reducible refine Cells.drew_ ?_) | (with_reducible refine Cells.alloc ?_ _) | (with_reducible refine Cells.below ?_ hb5))); rintro e w6 ⟨rfl, rfl⟩)
            | (go_at_call 49; with_reducible refine (radd_any (x := N * 10) (y := d) (by omega) (by omega) rfl rfl ?_ (Cells.sub (m := 1) ?_ hdl)).mono ?_; (focus repeat' (first | (with_reducible exact HC.out) | (with_reducible exact hc5) | (with_reducible refine Cells.lit ?_ hl10.out; first | rfl | (simp; done)) | (with_reducible refine Cells.lit ?_ hld.out; first | rfl | (simp; done)) | (with_reducible refine Cells.drew_ ?_) | (with_reducible refine Cells.alloc ?_ _) | (with_reducible refine Cells.below ?_ hb5))); (focus repeat' (first | (with_reducible exact HC.out) | (with_reducible exact hc5) | (with_reducible refine Cells.lit ?_ hl10.out; first | rfl | (simp; done)) | (with_reducible refine Cells.lit ?_ hld.out; first | rfl | (simp; done)) | (with_reducible refine Cells.drew_ ?_) | (with_reducible refine Cells.alloc ?_ _) | (with_reducible refine Cells.below ?_ hb5))); rintro e w7 ⟨D7, c7, rfl, hl7, hc7, hf7, hb7⟩; have K7 : Below w5.heap.size w5 w7 := (by first | exact hb7 | exact bl_on (bl_alloc (Below.refl _ _) _) hb7)))
        all_goals
          have HC7 := Lib.hid hc7
          have HB7 := Lib.hid (Below.on (Below.on HB.out K5) K7)
          have HK7 := Lib.hid ((HK.out.keep K5).keep K7)
          clear q0 f0
          go_wp2
          go_roundw
          case rel => exact ⟨k + 1, D7, c7, by omega, by go_num, by rw [HM.out], by rw [HM.out]; exact hl7, HAL2, by rw [HM.out]; exact HC7, HB7, HK7⟩
          case measure => simp [intOf]; omega
      · have HE := Lib.hid (err_digit HBIG.out HNB.out (Dc.alld_no hks (Dc.isd_no (by omega))))
        by_cases hd1 : Dc.sb s k < 48
        · have hd2 : (s[k].toNat : Int) < 48 := by omega
          clear hd hsk hd1
          go_wp2
          refine bodyPost_ret (v := .tuple #[.agg #[.slice none 0 0], .int .i64 1]) (by simp [results, Try.results30, go_sem, q0]) rfl ?_
          exact ⟨.inr ⟨by rw [HE.out]; decide, by rw [HE.out]⟩, HB.out.setCell (p := ⟨w.heap.size, 0, none⟩) (Nat.le_refl _) _⟩
        · have hd2 : (57 : Int) < (s[k].toNat : Int) := by omega
          have hd3 : (48 : Int) ≤ (s[k].toNat : Int) := by omega
          clear hd hsk hd1
          go_wp2
          refine bodyPost_ret (v := .tuple #[.agg #[.slice none 0 0], .int .i64 1]) (by simp [results, Try.results30, go_sem, q0]) rfl ?_
          exact ⟨.inr ⟨by rw [HE.out]; decide, by rw [HE.out]⟩, HB.out.setCell (p := ⟨w.heap.size, 0, none⟩) (Nat.le_refl _) _⟩
    · obtain rfl : k = s.size := by omega
      by_cases h64 : L32 N ≤ 64
      · have HE := Lib.hid (err_none HBIG.out HNB.out HAL.out (by rw [← HN.out]; omega))
        clear q0 f0 hks
        go_wp2_with fail
        refine (whole_yes (x := N) (by omega) hlc (fit16_len _) HC.out h64).mono ?_
        rintro e w8 ⟨D8, c8, rfl, hl8, hc8, hf8, hb8⟩
        have HB8 := Lib.hid ((Below.on HB.out hb8).alloc (Below.on HB.out hb8).size (.cells #[.slice D8 (L32 N) c8] 24))
        have HK8 := Lib.hid ((HK.out.keep hb8).alloc (.cells #[.slice D8 (L32 N) c8] 24))
        have HX8 := Lib.hid (Blk.new w8 24 #[.slice D8 (L32 N) c8])
        have HC8 := Lib.hid (hc8.alloc (.cells #[.slice D8 (L32 N) c8] 24))
        have HF8 := Lib.hid (hf8.mono (Nat.succ_le_of_lt HK.out.lt))
        have q0 : (w8.alloc (.cells #[.slice D8 (L32 N) c8] 24)).cell? ⟨w.heap.size, 0, none⟩ = some (.slice none 0 0) := HK8.out.cell 0
        have f0 : (w8.alloc (.cells #[.slice D8 (L32 N) c8] 24)).frozen? ⟨w.heap.size, 0, none⟩ = false := HK8.out.frozen 0
        have r0 : (w8.alloc (.cells #[.slice D8 (L32 N) c8] 24)).cell? ⟨w8.heap.size, 0, none⟩ = some (.slice D8 (L32 N) c8) := HX8.out.cell 0
        obtain ⟨l, hl⟩ : ∃ l, l = L32 N := ⟨_, rfl⟩
        rw [← hl] at hl8 HC8 HB8 HK8 HX8 q0 f0 r0 ⊢
        have HLL := Lib.hid hl
        clear hb8 hc8 hf8 hl h64
        go_wp2
        refine bodyPost_ret (v := .tuple #[.agg #[.slice D8 l c8], .int .i64 0]) (by simp [results, Try.results30, go_sem, q0]) rfl ?_
        refine ⟨.inl ⟨HE.out, D8, c8, ?_, ?_, ?_⟩, HB8.out.setCell (p := ⟨w.heap.size, 0, none⟩) (Nat.le_refl _) _⟩
        · rw [← HN.out, ← HLL.out]
        · rw [← HN.out, ← HLL.out]; exact hl8
        · rw [← HN.out, ← HLL.out]; exact HC8.out.set_ HF8.out (Nat.lt_succ_self _) _ _
      · have h64' : 64 < L32 N := by omega
        have HE := Lib.hid (err_long HBIG.out HNB.out HAL.out (by rw [← HN.out]; exact h64'))
        clear q0 f0 hks h64
        go_wp2_with fail
        refine (whole_no (x := N) (by omega) hlc (fit16_len _) HC.out h64').mono ?_
        rintro e w8 ⟨rfl, hb8⟩
        have HB8 := Lib.hid ((Below.on HB.out hb8).alloc (Below.on HB.out hb8).size (.cells #[.slice none 0 0] 24))
        have HK8 := Lib.hid ((HK.out.keep hb8).alloc (.cells #[.slice none 0 0] 24))
        have q0 : (w8.alloc (.cells #[.slice none 0 0] 24)).cell? ⟨w.heap.size, 0, none⟩ = some (.slice none 0 0) := HK8.out.cell 0
        have f0 : (w8.alloc (.cells #[.slice none 0 0] 24)).frozen? ⟨w.heap.size, 0, none⟩ = false := HK8.out.frozen 0
        clear hb8 h64'
        go_wp2
        refine bodyPost_ret (v := .tuple #[.agg #[.slice none 0 0], .int .i64 9]) (by simp [results, Try.results30, go_sem, q0]) rfl ?_
        exact ⟨.inr ⟨by rw [HE.out]; decide, by rw [HE.out]⟩, HB8.out.setCell (p := ⟨w.heap.size, 0, none⟩) (Nat.le_refl _) _⟩
set_option maxHeartbeats 8000000 in
set_option maxRecDepth 100000 in
theorem rparse_b (s : ByteArray) (w : World) (hpos : 0 < s.size) (hsi : (s.size : Int) ≤ 620) (hte : s.toList.isEmpty = false) (HBIG : Hid (¬ 620 < s.size)) (HNB : Hid (¬ (s.size = 0 ∨ (Dc.sb s 0 = 48 ∧ 1 < s.size)))) (h0 : ((s[0].toNat : Int) == 48) = true) (h1i : (s.size : Int) ≤ 1) :
    Calls Try.prog 30 #[.string s] w fun e w' => ParseRes w' e s ∧ Below w.heap.size w w' := by
  have HB0 := Lib.hid ((Below.refl w.heap.size w).alloc (Nat.le_refl _) (.cells #[.slice none 0 0] 24))
  have HK0 := Lib.hid (Blk.new w 24 #[.slice none 0 0])
  have H10 := Lib.hid (show (1 : Nat) = L16 10 from (Nt.len_eq (by omega) (by omega) (.inr (by omega))).symm)
  have hl10 := Lib.hid (fun j (hj : j < 1) => show (#[Value.int .i64 10])[j]? = some (Dg (d16 10) j) by
    obtain rfl : j = 0 := by omega
    rfl)
  go_enter Try.func30, Try.ntmps30
  go_wp2
  go_loopw [4, 5] (fun s4 s5 wr => ∃ (k : Nat) (D : Option Addr) (c : Nat), k ≤ s.size ∧ s5 = .int .i64 (k : Int) ∧ s4 = .slice D (L16 (Dc.pv s k)) c ∧ L16 (Dc.pv s k) ≤ c ∧ Hid (Dc.alld s k = true) ∧ Hid (Cells wr D (L16 (Dc.pv s k)) (Dg (d16 (Dc.pv s k)))) ∧ Hid (Below w.heap.size w wr) ∧ Hid (Blk wr w.heap.size 24 #[.slice none 0 0])) (fun _ s5 _ => s.size - (intOf s5).toNat)
  case atStart =>
    have hl0 : L16 (Dc.pv s 0) = 0 := L16_zero.2 rfl
    exact ⟨0, none, 0, Nat.zero_le _, rfl, by rw [hl0], by rw [hl0]; exact Nat.le_refl _, rfl, by rw [hl0]; exact Cells.nil, HB0, HK0⟩
  case round =>
    obtain ⟨k, D, c, hk, rfl, rfl, hlc, HAL, HC, HB, HK⟩ := hrel
    have q0 : wr.cell? ⟨w.heap.size, 0, none⟩ = some (.slice none 0 0) := HK.out.cell 0
    have f0 : wr.frozen? ⟨w.heap.size, 0, none⟩ = false := HK.out.frozen 0
    have hnl := pv_len16 HAL.out
    obtain ⟨N, hN⟩ : ∃ N, N = Dc.pv s k := ⟨_, rfl⟩
    rw [← hN] at hlc HC hnl ⊢
    have HN := Lib.hid hN
    clear hN
    by_cases hks : k < s.size
    · have hsk := Dc.sb_at hks
      by_cases hd : 48 ≤ Dc.sb s k ∧ Dc.sb s k ≤ 57
      · have HAL2 := Lib.hid (show Dc.alld s (k + 1) = true by simp only [Dc.alld]; rw [HAL.out, Dc.isd_yes hd.1 hd.2]; rfl)
        have hnl2 := pv_len16 HAL2.out
        obtain ⟨d, hdd⟩ : ∃ d, d = Dc.sb s k - 48 := ⟨_, rfl⟩
        have hd10 : d < 10 := by omega
        have hds : (s[k].toNat : Int) - 48 = (d : Int) := by rw [hsk]; omega
        have hwr : IntKind.i64.wrap (d : Int) = (d : Int) := IntWalk.i64_in _ (by omega)
        have hsl : (48 : Int) ≤ (s[k].toNat : Int) := by rw [hsk]; omega
        have hsh : (s[k].toNat : Int) ≤ 57 := by rw [hsk]; omega
        have hwr0 : IntKind.i64.wrap (s[k].toNat : Int) = (s[k].toNat : Int) := IntWalk.i64_in _ (by omega)
        have HM := Lib.hid (show Dc.pv s (k + 1) = N * 10 + d by rw [pv_next, HN.out, hdd])
        rw [HM.out] at hnl2
        have hnl3 : L16 (N * 10) ≤ 620 := Nat.le_trans (Nt.len_mono (by omega) (show N * 10 ≤ N * 10 + d by omega)) (by show L16 (N * 10 + d) ≤ 620; omega)
        have hdl : L16 d ≤ 1 := Nt.len_le (by omega) (by omega)
        have HFD := Lib.hid (show Fit16 d 1 from fit16_of hdl)
        have hld := Lib.hid (fun j (hj : j < 1) => show (#[Value.int .i64 (d : Int)])[j]? = some (Dg (d16 d) j) by
          obtain rfl : j = 0 := by omega
          have e : d16 d 0 = d := by unfold d16 Nt.dig; rw [Nat.pow_zero, Nat.div_one]; omega
          show some (Value.int .i64 (d : Int)) = some (Value.int .i64 (d16 d 0 : Int))
          rw [e])
        have hcap1 : (1 : Nat) ≤ 1 := Nat.le_refl _
        clear hd hdd hsk HAL
        go_wp2
        go_region_held3 (fun _ => True) (trivial)
          (first
            | (go_at_call 43; with_reducible refine (rmul_any (x := N) (y := 10) (by omega) (by omega) rfl H10.out ?_ ?_).mono ?_; (focus repeat' (first | (with_reducible exact HC.out) | (with_reducible exact hc5) | (with_reducible refine Cells.lit ?_ hl10.out; first | rfl | (simp; done)) | (with_reducible refine Cells.lit ?_ hld.out; first | rfl | (simp; done)) | (with_reducible refine Cells.drew_ ?_) | (with_reducible refine Cells.alloc ?_ _) | (with_reducible refine Cells.below ?_ hb5))); (focus repeat' (first | (with_reducible exact HC.out) | (with_reducible exact hc5) | (with_reducible refine Cells.lit ?_ hl10.out; first | rfl | (simp; done)) | (with_reducible refine Cells.lit ?_ hld.out; first | rfl | (simp; done)) | (with_reducible refine Cells.drew_ ?_) | (with_reducible refine Cells.alloc ?_ _) | (with_reducible refine Cells.below ?_ hb5))); rintro e w5 ⟨D5, c5, rfl, hl5, hc5, hf5, hb5⟩; have K5 : Below wr.heap.size wr w5 := (by first | exact bl_on (bl_drew (bl_alloc (Below.refl _ _) _)) hb5 | exact bl_on (bl_drew (bl_alloc (bl_alloc (Below.refl _ _) _) _)) hb5 | exact bl_on (bl_alloc (bl_drew (Below.refl _ _)) _) hb5 | exact bl_on (bl_alloc (bl_alloc (bl_drew (Below.refl _ _)) _) _) hb5))
            | (go_at_call 51; with_reducible refine (rtrim_any (m := 1) (N := d) (by omega) (Nat.le_refl _) HFD.out ?_).mono ?_; (focus repeat' (first | (with_reducible exact HC.out) | (with_reducible exact hc5) | (with_reducible refine Cells.lit ?_ hl10.out; first | rfl | (simp; done)) | (with_reducible refine Cells.lit ?_ hld.out; first | rfl | (simp; done)) | (with_reducible refine Cells.drew_ ?_) | (with_reducible refine Cells.alloc ?_ _) | (with_reducible refine Cells.below ?_ hb5))); rintro e w6 ⟨rfl, rfl⟩)
            | (go_at_call 49; with_reducible refine (radd_any (x := N * 10) (y := d) (by omega) (by omega) rfl rfl ?_ (Cells.sub (m := 1) ?_ hdl)).mono ?_; (focus repeat' (first | (with_reducible exact HC.out) | (with_reducible exact hc5) | (with_reducible refine Cells.lit ?_ hl10.out; first | rfl | (simp; done)) | (with_reducible refine Cells.lit ?_ hld.out; first | rfl | (simp; done)) | (with_reducible refine Cells.drew_ ?_) | (with_reducible refine Cells.alloc ?_ _) | (with_reducible refine Cells.below ?_ hb5))); (focus repeat' (first | (with_reducible exact HC.out) | (with_reducible exact hc5) | (with_reducible refine Cells.lit ?_ hl10.out; first | rfl | (simp; done)) | (with_reducible refine Cells.lit ?_ hld.out; first | rfl | (simp; done)) | (with_reducible refine Cells.drew_ ?_) | (with_reducible refine Cells.alloc ?_ _) | (with_reducible refine Cells.below ?_ hb5))); rintro e w7 ⟨D7, c7, rfl, hl7, hc7, hf7, hb7⟩; have K7 : Below w5.heap.size w5 w7 := (by first | exact hb7 | exact bl_on (bl_alloc (Below.refl _ _) _) hb7)))
        all_goals
          have HC7 := Lib.hid hc7
          have HB7 := Lib.hid (Below.on (Below.on HB.out K5) K7)
          have HK7 := Lib.hid ((HK.out.keep K5).keep K7)
          clear q0 f0
          go_wp2
          go_roundw
          case rel => exact ⟨k + 1, D7, c7, by omega, by go_num, by rw [HM.out], by rw [HM.out]; exact hl7, HAL2, by rw [HM.out]; exact HC7, HB7, HK7⟩
          case measure => simp [intOf]; omega
      · have HE := Lib.hid (err_digit HBIG.out HNB.out (Dc.alld_no hks (Dc.isd_no (by omega))))
        by_cases hd1 : Dc.sb s k < 48
        · have hd2 : (s[k].toNat : Int) < 48 := by omega
          clear hd hsk hd1
          go_wp2
          refine bodyPost_ret (v := .tuple #[.agg #[.slice none 0 0], .int .i64 1]) (by simp [results, Try.results30, go_sem, q0]) rfl ?_
          exact ⟨.inr ⟨by rw [HE.out]; decide, by rw [HE.out]⟩, HB.out.setCell (p := ⟨w.heap.size, 0, none⟩) (Nat.le_refl _) _⟩
        · have hd2 : (57 : Int) < (s[k].toNat : Int) := by omega
          have hd3 : (48 : Int) ≤ (s[k].toNat : Int) := by omega
          clear hd hsk hd1
          go_wp2
          refine bodyPost_ret (v := .tuple #[.agg #[.slice none 0 0], .int .i64 1]) (by simp [results, Try.results30, go_sem, q0]) rfl ?_
          exact ⟨.inr ⟨by rw [HE.out]; decide, by rw [HE.out]⟩, HB.out.setCell (p := ⟨w.heap.size, 0, none⟩) (Nat.le_refl _) _⟩
    · obtain rfl : k = s.size := by omega
      by_cases h64 : L32 N ≤ 64
      · have HE := Lib.hid (err_none HBIG.out HNB.out HAL.out (by rw [← HN.out]; omega))
        clear q0 f0 hks
        go_wp2_with fail
        refine (whole_yes (x := N) (by omega) hlc (fit16_len _) HC.out h64).mono ?_
        rintro e w8 ⟨D8, c8, rfl, hl8, hc8, hf8, hb8⟩
        have HB8 := Lib.hid ((Below.on HB.out hb8).alloc (Below.on HB.out hb8).size (.cells #[.slice D8 (L32 N) c8] 24))
        have HK8 := Lib.hid ((HK.out.keep hb8).alloc (.cells #[.slice D8 (L32 N) c8] 24))
        have HX8 := Lib.hid (Blk.new w8 24 #[.slice D8 (L32 N) c8])
        have HC8 := Lib.hid (hc8.alloc (.cells #[.slice D8 (L32 N) c8] 24))
        have HF8 := Lib.hid (hf8.mono (Nat.succ_le_of_lt HK.out.lt))
        have q0 : (w8.alloc (.cells #[.slice D8 (L32 N) c8] 24)).cell? ⟨w.heap.size, 0, none⟩ = some (.slice none 0 0) := HK8.out.cell 0
        have f0 : (w8.alloc (.cells #[.slice D8 (L32 N) c8] 24)).frozen? ⟨w.heap.size, 0, none⟩ = false := HK8.out.frozen 0
        have r0 : (w8.alloc (.cells #[.slice D8 (L32 N) c8] 24)).cell? ⟨w8.heap.size, 0, none⟩ = some (.slice D8 (L32 N) c8) := HX8.out.cell 0
        obtain ⟨l, hl⟩ : ∃ l, l = L32 N := ⟨_, rfl⟩
        rw [← hl] at hl8 HC8 HB8 HK8 HX8 q0 f0 r0 ⊢
        have HLL := Lib.hid hl
        clear hb8 hc8 hf8 hl h64
        go_wp2
        refine bodyPost_ret (v := .tuple #[.agg #[.slice D8 l c8], .int .i64 0]) (by simp [results, Try.results30, go_sem, q0]) rfl ?_
        refine ⟨.inl ⟨HE.out, D8, c8, ?_, ?_, ?_⟩, HB8.out.setCell (p := ⟨w.heap.size, 0, none⟩) (Nat.le_refl _) _⟩
        · rw [← HN.out, ← HLL.out]
        · rw [← HN.out, ← HLL.out]; exact hl8
        · rw [← HN.out, ← HLL.out]; exact HC8.out.set_ HF8.out (Nat.lt_succ_self _) _ _
      · have h64' : 64 < L32 N := by omega
        have HE := Lib.hid (err_long HBIG.out HNB.out HAL.out (by rw [← HN.out]; exact h64'))
        clear q0 f0 hks h64
        go_wp2_with fail
        refine (whole_no (x := N) (by omega) hlc (fit16_len _) HC.out h64').mono ?_
        rintro e w8 ⟨rfl, hb8⟩
        have HB8 := Lib.hid ((Below.on HB.out hb8).alloc (Below.on HB.out hb8).size (.cells #[.slice none 0 0] 24))
        have HK8 := Lib.hid ((HK.out.keep hb8).alloc (.cells #[.slice none 0 0] 24))
        have q0 : (w8.alloc (.cells #[.slice none 0 0] 24)).cell? ⟨w.heap.size, 0, none⟩ = some (.slice none 0 0) := HK8.out.cell 0
        have f0 : (w8.alloc (.cells #[.slice none 0 0] 24)).frozen? ⟨w.heap.size, 0, none⟩ = false := HK8.out.frozen 0
        clear hb8 h64'
        go_wp2
        refine bodyPost_ret (v := .tuple #[.agg #[.slice none 0 0], .int .i64 9]) (by simp [results, Try.results30, go_sem, q0]) rfl ?_
        exact ⟨.inr ⟨by rw [HE.out]; decide, by rw [HE.out]⟩, HB8.out.setCell (p := ⟨w.heap.size, 0, none⟩) (Nat.le_refl _) _⟩
set_option maxHeartbeats 8000000 in
set_option maxRecDepth 100000 in
theorem rparse_any (s : ByteArray) (w : World) (hs : s.size ≤ maxLen) :
    Calls Try.prog 30 #[.string s] w fun e w' => ParseRes w' e s ∧ Below w.heap.size w w' := by
  obtain ⟨i0, hi, hz0, hz1, hz2⟩ := info_parts Try.infoU
  unfold maxLen at hs
  have HB0 := Lib.hid ((Below.refl w.heap.size w).alloc (Nat.le_refl _) (.cells #[.slice none 0 0] 24))
  have HK0 := Lib.hid (Blk.new w 24 #[.slice none 0 0])
  by_cases hbig : 620 < s.size
  · have HE := Lib.hid (err_big hbig)
    have q0 : (w.alloc (.cells #[.slice none 0 0] 24)).cell? ⟨w.heap.size, 0, none⟩ = some (.slice none 0 0) := HK0.out.cell 0
    go_enter Try.func30, Try.ntmps30
    go_wp2
    refine bodyPost_ret (v := .tuple #[.agg #[.slice none 0 0], .int .i64 3]) (by simp [results, Try.results30, go_sem]) rfl ?_
    exact ⟨.inr ⟨by rw [HE.out]; decide, by rw [HE.out]⟩, HB0.out⟩
  have hsi : (s.size : Int) ≤ 620 := by omega
  by_cases hz : s.size = 0
  · have HE := Lib.hid (err_head hbig (.inl hz))
    have hte := bytes_eq (s := s) (by omega)
    have q0 : (w.alloc (.cells #[.slice none 0 0] 24)).cell? ⟨w.heap.size, 0, none⟩ = some (.slice none 0 0) := HK0.out.cell 0
    clear hz
    go_enter Try.func30, Try.ntmps30
    go_wp2
    refine bodyPost_ret (v := .tuple #[.agg #[.slice none 0 0], .int .i64 1]) (by simp [results, Try.results30, go_sem]) rfl ?_
    exact ⟨.inr ⟨by rw [HE.out]; decide, by rw [HE.out]⟩, HB0.out⟩
  have hte := bytes_ne (s := s) (by omega)
  have hpos : 0 < s.size := by omega
  by_cases hl : Dc.sb s 0 = 48 ∧ 1 < s.size
  · have HE := Lib.hid (err_head hbig (.inr hl))
    have h0 : ((s[0].toNat : Int) == 48) = true := by rw [Dc.sb_at hpos, hl.1]; rfl
    have h1i : (1 : Int) < (s.size : Int) := by omega
    have q0 : (w.alloc (.cells #[.slice none 0 0] 24)).cell? ⟨w.heap.size, 0, none⟩ = some (.slice none 0 0) := HK0.out.cell 0
    clear hl
    go_enter Try.func30, Try.ntmps30
    go_wp2
    refine bodyPost_ret (v := .tuple #[.agg #[.slice none 0 0], .int .i64 1]) (by simp [results, Try.results30, go_sem]) rfl ?_
    exact ⟨.inr ⟨by rw [HE.out]; decide, by rw [HE.out]⟩, HB0.out⟩
  have hnb : ¬ (s.size = 0 ∨ (Dc.sb s 0 = 48 ∧ 1 < s.size)) := by omega
  have HNB := Lib.hid hnb
  have HBIG := Lib.hid hbig
  have hsb := Dc.sb_at hpos
  have hhead : Hid ((((s[0].toNat : Int) == 48) = false) ∨ ((((s[0].toNat : Int) == 48) = true) ∧ (s.size : Int) ≤ 1)) := by
    by_cases h0 : Dc.sb s 0 = 48
    · exact .inr ⟨by rw [hsb, h0]; rfl, by omega⟩
    · exact .inl (by rw [hsb]; simp; omega)
  clear hnb hbig hl hsb hz
  rcases hhead.out with h0 | ⟨h0, h1i⟩
  · exact rparse_a s w hpos hsi hte HBIG HNB h0
  · exact rparse_b s w hpos hsi hte HBIG HNB h0 h1i
end Go.Proofs.Ythjbkadhgcjnaaa
