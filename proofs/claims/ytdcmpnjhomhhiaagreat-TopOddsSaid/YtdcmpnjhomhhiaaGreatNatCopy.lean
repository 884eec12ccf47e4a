/- The walk of nat.copied. -/
import Derived.Test.YtdcmpnjhomhhiaaGreatG2
set_option linter.unusedVariables false
namespace Go.Proofs.YtdcmpnjhomhhiaaGreat
open Go.RowKit

theorem Cells.at_add {w : World} {a : Addr} {m : Nat} {G : Nat → Value} (h : Cells w (some a) m G) {j : Nat} (hj : j < m) : w.cell? (a.add j) = some (G j) := by
  obtain ⟨b, off, e, _, hc⟩ := h (by omega)
  injection e with e
  subst e
  have := hc j hj
  unfold Addr.add
  split
  · rename_i h0; subst h0; exact this
  · exact this
set_option maxHeartbeats 1000000 in
set_option maxRecDepth 100000 in
theorem copied_any {D : Option Addr} {n c x : Nat} {w : World} (hn : n ≤ 64) (hnx : n = L32 x) (hx : Cells w D n (Lm (d32 x))) :
    Calls Tryz.prog 76 #[natv D n c] w fun e w' => ∃ D' c', e = .returned (natv D' (L32 x) c') ∧ L32 x ≤ c' ∧ Cells w' D' (L32 x) (Lm (d32 x)) ∧ Fresh w.heap.size D' ∧ Below w.heap.size w w' := by
  obtain ⟨i0, hi, hz0, hz1, hz2⟩ := info_parts Tryz.infoU
  have HX := Lib.hid hnx
  clear hnx
  unfold natv
  have HB0 := Lib.hid ((Below.refl w.heap.size w).alloc (Nat.le_refl _) (.cells #[.slice D n c] 34))
  have HK0 := Lib.hid (Blk.new w 34 #[.slice D n c])
  have HB1 := Lib.hid (HB0.out.alloc HB0.out.size (.cells #[.slice none 0 0] 34))
  have HK1 := Lib.hid (HK0.out.alloc (.cells #[.slice none 0 0] 34))
  have HA1 : Hid (Blk ((w.alloc (.cells #[.slice D n c] 34)).alloc (.cells #[.slice none 0 0] 34)) (w.heap.size + 1) 34 #[.slice none 0 0]) := by
    have := Blk.new (w.alloc (.cells #[.slice D n c] 34)) 34 #[.slice none 0 0]
    rwa [World.size_alloc] at this
  have HC1 := Lib.hid (hx.below HB1.out)
  clear HB0 HK0
  cases D with
  | none =>
    have hn0 : n = 0 := by
      rcases Nat.eq_zero_or_pos n with h | h
      · exact h
      · obtain ⟨_, _, e, _⟩ := hx h
        cases e
    subst hn0
    go_enter Tryz.func76, Tryz.ntmps76
    go_wp2_with fail
    refine (trimmed_any (m := 0) (N := x) (by omega) (Nat.le_refl 0) (by rw [HX.out]; exact fit32_len x) Cells.nil).mono ?_
    rintro e w4 ⟨D', c', rfl, hlc, hc, hb4, hD⟩
    have HB4 := Lib.hid (Below.on HB1.out hb4)
    have HA4 := Lib.hid (HA1.out.keep hb4)
    have HD : Hid (Fresh (w.heap.size + 1 + 1) D') := (fresh_none (B := w.heap.size + 1 + 1)).same hD
    have HCC := Lib.hid hc
    have q0 : w4.cell? ⟨w.heap.size + 1, 0, none⟩ = some (.slice none 0 0) := HA4.out.cell 0
    have f0 : w4.frozen? ⟨w.heap.size + 1, 0, none⟩ = false := HA4.out.frozen 0
    have hlt := HA4.out.lt
    unfold natv
    obtain ⟨l, hl⟩ : ∃ l, l = L32 x := ⟨_, rfl⟩
    rw [← hl] at hlc HCC ⊢
    have HL := Lib.hid hl
    clear hb4 hc hl hD
    go_wp2
    refine bodyPost_ret (v := .agg #[.slice D' l c']) (by simp [results, Tryz.results76, go_sem, q0]) rfl ?_
    rw [← HL.out]
    exact ⟨D', c', rfl, hlc, HCC.out.set_ HD.out (by omega) _ _, HD.out.mono (by omega), HB4.out.setCell (p := ⟨w.heap.size + 1, 0, none⟩) (by simp) _⟩
  | some ad =>
    go_enter Tryz.func76, Tryz.ntmps76
    go_wp2_with (at_builtin; refine wpList_append_own _ rfl _ _ 32 rfl (w.heap.size + 1 + 1) 65 i0 (.int .u32 0) 1 4 Tryz.underlying32 hi hz0 hz1 hz2 rfl (by decide) (.slice none 0 0) 0 [] rfl (World.ownsRow_nil _ _ _ _) ad n c (row n (Lm (d32 x))) rfl ?c0 ?c1 ?c2 ?c3 ?c4 ?c5 ?_)
    case c0 => rw [row_length, Nat.mul_one]
    case c1 =>
      intro j u hj
      have hjn : j < n := by
        rcases Nat.lt_or_ge j n with h | h
        · exact h
        · rw [List.getElem?_eq_none (by rw [row_length]; exact h)] at hj; cases hj
      rw [row_get hjn] at hj
      injection hj with hj
      rw [← hj]
      exact HC1.out.at_add hjn
    case c2 =>
      intro u hu
      unfold row at hu
      obtain ⟨j, _, rfl⟩ := List.mem_map.1 hu
      rfl
    case c3 => unfold maxLen; omega
    case c4 => omega
    case c5 => simp
    intro v' w3 hown' hgrow _
    have HO : Hid (w3.ownsRow (w.heap.size + 1 + 1) 65 1 v' n (row (n * 1) (Lm (d32 x)))) := by
      rw [Nat.mul_one]
      try simp only [Nat.zero_add, List.nil_append] at hown'
      exact hown'
    have HB3 := Lib.hid (HB1.out.grown hgrow (by simp; omega) fun j hj => by cases hj)
    have HK3 := Lib.hid (HK1.out.grown hgrow (by intro e; cases e))
    have HA3 := Lib.hid (HA1.out.grown hgrow (by intro e; cases e))
    clear hown' hgrow HB1 HK1 HA1 HC1
    obtain ⟨Dv, cv, rfl, hcv⟩ := own_slice HO.out
    have HC := Lib.hid (Cells.of_own HO.out)
    have HF := Lib.hid (Fresh.of_own HO.out)
    go_wp2_with fail
    refine (trimmed_any (m := n) (N := x) (by omega) hcv (by rw [HX.out]; exact fit32_len x) (by have := HC.out; rwa [Nat.mul_one] at this)).mono ?_
    rintro e w4 ⟨D', c', rfl, hlc, hc, hb4, hD⟩
    have HB4 := Lib.hid (Below.on HB3.out hb4)
    have HA4 := Lib.hid (HA3.out.keep hb4)
    have HD := Lib.hid (HF.out.same hD)
    have HCC := Lib.hid hc
    have q0 : w4.cell? ⟨w.heap.size + 1, 0, none⟩ = some (.slice none 0 0) := HA4.out.cell 0
    have f0 : w4.frozen? ⟨w.heap.size + 1, 0, none⟩ = false := HA4.out.frozen 0
    have hlt := HA4.out.lt
    unfold natv
    obtain ⟨l, hl⟩ : ∃ l, l = L32 x := ⟨_, rfl⟩
    rw [← hl] at hlc HCC ⊢
    have HL := Lib.hid hl
    clear hb4 hc hl hD
    go_wp2
    refine bodyPost_ret (v := .agg #[.slice D' l c']) (by simp [results, Tryz.results76, go_sem, q0]) rfl ?_
    rw [← HL.out]
    exact ⟨D', c', rfl, hlc, HCC.out.set_ HD.out (by omega) _ _, HD.out.mono (by omega), HB4.out.setCell (p := ⟨w.heap.size + 1, 0, none⟩) (by simp) _⟩
end Go.Proofs.YtdcmpnjhomhhiaaGreat
