/- The walk of the reference's Exact. -/
import Derived.Test.YtjifpiaianmmbaaPayExact
set_option linter.unusedVariables false
namespace Go.Proofs.Ytjifpiaianmmbaa
open Go.RowKit

theorem refValid_at {m : Int} {b : Bool} {w : World} (h : Ex.ok m = b) : Calls Try.prog 19 #[.int .i64 m] w fun e w' => e = .returned (.bool b) ∧ w = w' := by
  subst h; exact refValid_any m w

set_option maxHeartbeats 2000000 in
set_option maxRecDepth 100000 in
theorem refExact_any {D : Option Addr} {n c : Nat} {g t l : Int} {O : Nat → Int} {w : World} (hn : n ≤ 9223372036854775807) (hD : Cells w D (n * 1) (Ints O)) :
    Calls Try.prog 15 #[order g t D n c l] w fun e w' => e = .returned (.bool (Ex.exact g t n O l)) ∧ Below w.heap.size w w' := by
  unfold order
  have hb0 := (Below.refl w.heap.size w).alloc (Nat.le_refl _) (.cells #[.int .i64 g, .int .i64 t, .slice D n c, .int .i64 l] 27)
  have HB0 := Lib.hid hb0
  clear hb0
  by_cases hb : 16 < n
  · have He := Lib.hid (Ex.exact_big (g := g) (t := t) (O := O) (l := l) hb)
    go_enter Try.func15, Try.ntmps15
    go_wp2
    go_ret
    exact ⟨ret_bool He.out.symm, HB0.out⟩
  cases hg : Ex.ok g with
  | false =>
    have He := Lib.hid (Ex.exact_bad (g := g) (t := t) (n := n) (O := O) (l := l) (by rw [Ex.vv_g hg]; rfl))
    have Hg := Lib.hid hg
    clear hg
    go_enter Try.func15, Try.ntmps15
    go_wp2_with fail
    refine (refValid_at Hg.out).mono ?_
    rintro e w1 ⟨rfl, rfl⟩
    go_wp2
    go_ret
    exact ⟨ret_bool He.out.symm, HB0.out⟩
  | true =>
    have Hg := Lib.hid hg
    clear hg
    cases ht : Ex.ok t with
    | false =>
      have He := Lib.hid (Ex.exact_bad (g := g) (t := t) (n := n) (O := O) (l := l) (by rw [Ex.vv_t ht]; rfl))
      have Ht := Lib.hid ht
      clear ht
      go_enter Try.func15, Try.ntmps15
      go_wp2_with fail
      refine (refValid_at Hg.out).mono ?_
      rintro e w1 ⟨rfl, rfl⟩
      go_wp2_with fail
      refine (refValid_at Ht.out).mono ?_
      rintro e w1 ⟨rfl, rfl⟩
      go_wp2
      go_ret
      exact ⟨ret_bool He.out.symm, HB0.out⟩
    | true =>
      have Ht := Lib.hid ht
      clear ht
      cases hl : Ex.ok l with
      | false =>
        have He := Lib.hid (Ex.exact_bad (g := g) (t := t) (n := n) (O := O) (l := l) (by rw [hl, Bool.and_false]))
        have Hl := Lib.hid hl
        clear hl
        go_enter Try.func15, Try.ntmps15
        go_wp2_with fail
        refine (refValid_at Hg.out).mono ?_
        rintro e w1 ⟨rfl, rfl⟩
        go_wp2_with fail
        refine (refValid_at Ht.out).mono ?_
        rintro e w1 ⟨rfl, rfl⟩
        go_wp2_with fail
        refine (refValid_at Hl.out).mono ?_
        rintro e w1 ⟨rfl, rfl⟩
        go_wp2
        go_ret
        exact ⟨ret_bool He.out.symm, HB0.out⟩
      | true =>
        have hl2 := Ex.ok_gives hl
        have ht2 := Ex.ok_gives Ht.out
        obtain ⟨l0, l1⟩ := hl2
        obtain ⟨t0, t1⟩ := ht2
        have Hl := Lib.hid hl
        clear hl
        have hv0 : Ex.vv g t O 0 = true := by simp only [Ex.vv, Hg.out, Ht.out]; rfl
        have hs0 : t + l = Ex.sv t O 0 + l := by simp only [Ex.sv]; rw [if_pos Ht.out]
        have HV0 := Lib.hid hv0
        have HS0 := Lib.hid hs0
        clear hv0 hs0
        go_enter Try.func15, Try.ntmps15
        go_wp2_with fail
        refine (refValid_at Hg.out).mono ?_
        rintro e w1 ⟨rfl, rfl⟩
        go_wp2_with fail
        refine (refValid_at Ht.out).mono ?_
        rintro e w1 ⟨rfl, rfl⟩
        go_wp2_with fail
        refine (refValid_at Hl.out).mono ?_
        rintro e w1 ⟨rfl, rfl⟩
        go_wp2
        go_loopw [3, 4] (fun s i wr => ∃ k : Nat, k ≤ n ∧ i = .int .i64 k ∧ s = .int .i64 (Ex.sv t O k + l) ∧ Ex.vv g t O k = true ∧ Below w.heap.size w wr ∧ wr.cell? ⟨w.heap.size, 2, none⟩ = some (.slice D n c) ∧ wr.cell? ⟨w.heap.size, 0, none⟩ = some (.int .i64 g)) (fun _ i _ => n - (intOf i).toNat)
        case atStart =>
          refine ⟨0, Nat.zero_le _, rfl, by rw [HS0.out], HV0.out, HB0.out, ?_, ?_⟩
          · rw [World.cell?_alloc_at _ _ _ _ rfl]; rfl
          · rw [World.cell?_alloc_at _ _ _ _ rfl]; rfl
        case round =>
          obtain ⟨k, hk, rfl, rfl, hv, hbr, r2, r0⟩ := hrel
          have hsb := Ex.sv_bounds t O k
          obtain ⟨s, hs⟩ : ∃ s, s = Ex.sv t O k := ⟨_, rfl⟩
          rw [← hs] at hsb ⊢
          have s0 : 0 ≤ s := hsb.1
          have s1 : s ≤ 100000000000000 := by omega
          clear hsb
          have HS := Lib.hid hs
          have HV := Lib.hid hv
          clear hs hv
          by_cases hkn : k < n
          · obtain ⟨b, off, rfl, hlt, hc⟩ := (hD.below hbr).one hkn
            cases ho : Ex.ok (O k) with
            | true =>
              have h1 : Ex.sv t O (k + 1) = s + O k := by simp only [Ex.sv]; rw [if_pos ho, HS.out]
              have h2 : Ex.vv g t O (k + 1) = true := by simp only [Ex.vv]; rw [ho, HV.out]; rfl
              have hob := Ex.ok_gives ho
              obtain ⟨o0, o1⟩ := hob
              have H1 := Lib.hid h1
              have H2 := Lib.hid h2
              have Ho := Lib.hid ho
              clear h1 h2 ho
              go_wp2_with fail
              refine (refValid_at Ho.out).mono ?_
              rintro e w1 ⟨rfl, rfl⟩
              go_wp2
              go_roundw
              case rel => exact ⟨k + 1, by omega, by go_num, by rw [H1.out]; congr 1; omega, H2.out, hbr, r2, r0⟩
              case measure => simp [intOf]; omega
            | false =>
              have He := Lib.hid (Ex.exact_bad (g := g) (t := t) (n := n) (O := O) (l := l) (by rw [Ex.vv_no hkn ho]; rfl))
              have Ho := Lib.hid ho
              clear ho
              go_wp2_with fail
              refine (refValid_at Ho.out).mono ?_
              rintro e w1 ⟨rfl, rfl⟩
              go_wp2
              go_ret
              exact ⟨ret_bool He.out.symm, hbr⟩
          · obtain rfl : k = n := by omega
            have He := Lib.hid (Ex.exact_good (g := g) (t := t) (O := O) (l := l) (n := k) (by omega) (by rw [HV.out, Hl.out]; rfl))
            go_wp2
            go_ret
            exact ⟨ret_bool (by rw [He.out, HS.out]), hbr⟩
end Go.Proofs.Ytjifpiaianmmbaa
