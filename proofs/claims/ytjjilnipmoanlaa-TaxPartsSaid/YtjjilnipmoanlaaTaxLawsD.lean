/- The walk of the law TaxParts. -/
import Derived.Test.YtjjilnipmoanlaaTaxAwake
set_option linter.unusedVariables false
namespace Go.Proofs.Ytjjilnipmoanlaa
open Go.RowKit

theorem Tx.last_at {n : Nat} {F R : Nat → Int} {a : Int} (hn : 0 < n) (ha : Tx.err n F R a = 0) (hF : F (n - 1) < a) :
    Tx.err n F R (F (n - 1)) = 0 ∧ Tx.val n F R a = Tx.val n F R (F (n - 1)) + (a - F (n - 1)) * R (n - 1) / 10000 := by
  obtain ⟨m, rfl⟩ : ∃ m, n = m + 1 := ⟨n - 1, by omega⟩
  exact Tx.last_of ha hF

set_option maxHeartbeats 1000000 in
set_option maxRecDepth 100000 in
theorem taxParts_walk (W : World) {A : Option Addr} {n c : Nat} {F R : Nat → Int} (hn : n ≤ c) (hc : c ≤ maxLen) (h : Cells W A (n * 2) (Two F R)) (hw : ∀ i, i < n → (Lit.int .i64 (F i)).wf = true ∧ (Lit.int .i64 (R i)).wf = true)
    (a : Int) (wa : (Lit.int .i64 a).wf = true) (m : Int) (wm : (Lit.int .u8 m).wf = true) :
    Calls Try.prog 8 #[.slice A n c, .int .i64 a, .int .u8 m] W fun e w' => e = .returned (.bool true) ∧ Below W.heap.size W w' := by
  unfold maxLen at hc
  have hm := bounds_u8 wm
  clear hw wa wm
  by_cases h0 : n = 0
  · have h0' : ((n : Int) == 0) = true := by simp [h0]
    clear h0
    go_enter Try.func8, Try.ntmps8
    go_wp2_with fail
    refine (awake45 _).mono ?_
    rintro e w9 ⟨rfl, hb⟩
    go_wp2
    go_ret
    exact ⟨rfl, hb⟩
  have h0' : ((n : Int) == 0) = false := by simp; omega
  have h1 : 0 < n := by omega
  clear h0
  by_cases h4 : 40 < n
  · go_enter Try.func8, Try.ntmps8
    go_wp2_with fail
    refine (awake45 _).mono ?_
    rintro e w9 ⟨rfl, hb⟩
    go_wp2
    go_ret
    exact ⟨rfl, hb⟩
  obtain ⟨x, ea, hx, hea⟩ : ∃ x ea, x = Tx.val n F R a ∧ ea = Tx.err n F R a := ⟨_, _, rfl, rfl⟩
  by_cases ha : ea = 0
  · subst ha
    obtain ⟨m', rfl⟩ := Int.eq_ofNat_of_zero_le hm.1
    obtain ⟨k, hk⟩ : ∃ k, k = m' % n := ⟨_, rfl⟩
    have hkn : k < n := by rw [hk]; exact Nat.mod_lt _ h1
    have hmod : (m' : Int) % (n : Int) = (k : Int) := by rw [hk]; rfl
    clear hk
    have hA := Tx.err_ok hea.symm
    have a0 : 0 ≤ a := hA.2.2.1
    have a1 : a ≤ 1000000000000 := hA.2.2.2.1
    have hbd := Tx.bounds_of hea.symm
    rw [← hx] at hbd
    obtain ⟨x0, x1, _⟩ := hbd
    clear hA
    by_cases hF : a ≤ F k
    · have HC := Lib.hid (Tx.cut_of hea.symm hkn hF)
      have Hx := Lib.hid hx
      have Ha := Lib.hid hea
      clear hx hea
      go_enter Try.func8, Try.ntmps8
      go_wp2_with fail
      refine (tax_at (x := x) (y := 0) (by omega) h Hx.out.symm Ha.out.symm).mono ?_
      rintro e w9 ⟨rfl, hb⟩
      have h9 := h.below hb
      obtain ⟨b, off, rfl, hlt, hFk, hRk⟩ := h9.two hkn
      have H9 := Lib.hid h9
      clear h9
      go_wp2_with fail
      refine (tax_at (n := k) (x := x) (y := 0) (by omega) (H9.out.sub (by omega)) (HC.out.2.trans Hx.out.symm) HC.out.1).mono ?_
      rintro e w8 ⟨rfl, hb8⟩
      replace hb := Below.on hb hb8
      clear hb8
      go_wp2_with fail
      refine (awake45 _).mono ?_
      rintro e w7 ⟨rfl, hb7⟩
      replace hb := Below.on hb hb7
      clear hb7
      go_wp2
      go_ret
      exact ⟨rfl, hb⟩
    · obtain ⟨f, hf⟩ : ∃ f, f = F (n - 1) := ⟨_, rfl⟩
      obtain ⟨r, hr⟩ : ∃ r, r = R (n - 1) := ⟨_, rfl⟩
      have hin := Tx.ok_in hea.symm (show n - 1 < n by omega)
      rw [← hf, ← hr] at hin
      obtain ⟨f0, f1, r0, r1⟩ := hin
      by_cases hl : a ≤ f
      · have Hx := Lib.hid hx
        have Ha := Lib.hid hea
        have Hf := Lib.hid hf
        have Hr := Lib.hid hr
        clear hx hea hf hr
        go_enter Try.func8, Try.ntmps8
        go_wp2_with fail
        refine (tax_at (x := x) (y := 0) (by omega) h Hx.out.symm Ha.out.symm).mono ?_
        rintro e w9 ⟨rfl, hb⟩
        obtain ⟨b, off, rfl, hlt, hFk, hRk⟩ := (h.below hb).two hkn
        obtain ⟨b', off', e', _, hF', hR'⟩ := (h.below hb).two (show n - 1 < n by omega)
        injection e' with e'
        injection e' with e1 e2
        subst e1 e2
        rw [← Hf.out] at hF'
        rw [← Hr.out] at hR'
        go_wp2_with fail
        refine (awake45 _).mono ?_
        rintro e w8 ⟨rfl, hb8⟩
        replace hb := Below.on (hb.alloc hb.size _) hb8
        clear hb8
        go_wp2
        go_ret
        exact ⟨rfl, hb⟩
      · have hL := Tx.last_at h1 hea.symm (by rw [← hf]; omega)
        obtain ⟨z, hz⟩ : ∃ z, z = Tx.val n F R (F (n - 1)) := ⟨_, rfl⟩
        have hzb := Tx.bounds_of hL.1
        rw [← hz, ← hf] at hzb
        rw [← hz, ← hf, ← hr, ← hx] at hL
        obtain ⟨z0, z1, _⟩ := hzb
        have hxz : (x == z + (a - f) * r / 10000) = true := by simpa using hL.2
        have p0 : 0 ≤ (a - f) * r := Int.mul_nonneg (by omega) r0
        have p1 : (a - f) * r ≤ 1000000000000 * 10000 := Int.mul_le_mul (by omega) r1 r0 (by omega)
        have HL := Lib.hid hL
        have Hz := Lib.hid hz
        have Hx := Lib.hid hx
        have Ha := Lib.hid hea
        have Hf := Lib.hid hf
        have Hr := Lib.hid hr
        clear hx hea hf hr hL hz
        go_enter Try.func8, Try.ntmps8
        go_wp2_with fail
        refine (tax_at (x := x) (y := 0) (by omega) h Hx.out.symm Ha.out.symm).mono ?_
        rintro e w9 ⟨rfl, hb⟩
        have h9 := h.below hb
        obtain ⟨b, off, rfl, hlt, hFk, hRk⟩ := h9.two hkn
        obtain ⟨b', off', e', _, hF', hR'⟩ := h9.two (show n - 1 < n by omega)
        injection e' with e'
        injection e' with e1 e2
        subst e1 e2
        rw [← Hf.out] at hF'
        rw [← Hr.out] at hR'
        have H9 := Lib.hid h9
        clear h9
        go_wp2_with fail
        refine (tax_at (x := z) (y := 0) (by omega) (H9.out.alloc _) (by rw [Hf.out, ← Hz.out]) HL.out.1).mono ?_
        rintro e w8 ⟨rfl, hb8⟩
        have hbox0 : w8.cell? ⟨w9.heap.size, 0, none⟩ = some (.int .i64 f) := by
          rw [hb8.cell (p := ⟨w9.heap.size, 0, none⟩) (by simp), World.cell?_alloc_at _ _ _ _ rfl]; rfl
        have hbox1 : w8.cell? ⟨w9.heap.size, 1, none⟩ = some (.int .i64 r) := by
          rw [hb8.cell (p := ⟨w9.heap.size, 1, none⟩) (by simp), World.cell?_alloc_at _ _ _ _ rfl]; rfl
        replace hb := Below.on (hb.alloc hb.size _) hb8
        clear hb8 hF' hR' hFk hRk
        go_wp2_with fail
        refine (awake45 _).mono ?_
        rintro e w7 ⟨rfl, hb7⟩
        replace hb := Below.on hb hb7
        clear hb7
        go_wp2
        go_ret
        exact ⟨rfl, hb⟩
  · have Hx := Lib.hid hx
    have Ha := Lib.hid hea
    clear hx hea
    go_enter Try.func8, Try.ntmps8
    go_wp2_with fail
    refine (tax_at (x := x) (y := ea) (by omega) h Hx.out.symm Ha.out.symm).mono ?_
    rintro e w9 ⟨rfl, hb⟩
    go_wp2_with fail
    refine (awake45 _).mono ?_
    rintro e w8 ⟨rfl, hb8⟩
    replace hb := Below.on hb hb8
    go_wp2
    go_ret
    exact ⟨rfl, hb⟩
end Go.Proofs.Ytjjilnipmoanlaa
