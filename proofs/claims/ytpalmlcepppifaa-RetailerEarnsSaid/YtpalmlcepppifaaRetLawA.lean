/- The walk of the law RetailerEarns. -/
import Derived.Test.YtpalmlcepppifaaRetSit
import Derived.Deep.RegionHeld3
import Derived.IntWalk
import Derived.Deep.DrawnRows
set_option linter.unusedVariables false
attribute [local go_sem ↓] Go.wp_at_zero Go.wp_at_succ
namespace Go.Proofs.Ytpalmlcepppifaa
open Go.RowKit

theorem lpart_at {m b y : Int} {w : World} (h0 : 0 ≤ m) (h1 : m ≤ 1000000000000) (h2 : 0 ≤ b) (h3 : b ≤ 10000) (hy : m * b / 10000 = y) :
    Calls Try.prog 31 #[.int .i64 m, .int .i64 b] w fun e w' => e = .returned (.int .i64 y) ∧ w = w' := by
  have hpe := Rt.part_eq m b
  rw [hy] at hpe
  have a1 : m / 10000 * b ≤ 100000000 * 10000 := Int.mul_le_mul (by omega) h3 h2 (by omega)
  have a0 : 0 ≤ m / 10000 * b := Int.mul_nonneg (by omega) h2
  have b1 : m % 10000 * b ≤ 9999 * 10000 := Int.mul_le_mul (by omega) h3 h2 (by omega)
  have b0 : 0 ≤ m % 10000 * b := Int.mul_nonneg (by omega) h2
  have HP := Lib.hid hpe
  clear hpe hy
  go_enter Try.func31, Try.ntmps31
  go_wp2
  go_ret
  exact ⟨ret_int HP.out, rfl⟩

/-- In the midst of the law: the account, and the last settlement's block. -/
structure Earn (W w : World) (g : Nat) (t : Rt.Tm) (x : Rt.St) (P : Nat) (c d : Int) : Prop where
  sit : Sit W w g t x
  blk : Blk w P 44 #[.int .i64 x.s, .int .i64 x.r, .int .i64 x.c, .int .i64 c, .int .i64 d]
theorem Earn.keep {W w w1 : World} {g P : Nat} {t : Rt.Tm} {x : Rt.St} {c d : Int} (h : Earn W w g t x P c d) (hb : Below w.heap.size w w1) : Earn W w1 g t x P c d := ⟨h.sit.keep hb, h.blk.keep hb⟩
theorem Earn.drew {W w : World} {g P : Nat} {t : Rt.Tm} {x : Rt.St} {c d : Int} (h : Earn W w g t x P c d) : Earn W w.drew g t x P c d := h.keep ⟨rfl, rfl, rfl, Nat.le_refl _, fun _ _ => rfl⟩
theorem Earn.drewN {W w : World} {g P : Nat} {t : Rt.Tm} {x : Rt.St} {c d : Int} (h : Earn W w g t x P c d) (n : Nat) : Earn W (w.drewN n) g t x P c d := h.keep (below_drewN (Below.refl _ _) n)
def EarnCells (W w : World) (t : Rt.Tm) (x : Rt.St) (P : Nat) (c d : Int) : Prop :=
  w.cell? ⟨P, 0, none⟩ = some (.int .i64 x.s) ∧ w.cell? ⟨P, 1, none⟩ = some (.int .i64 x.r) ∧ w.cell? ⟨P, 2, none⟩ = some (.int .i64 x.c) ∧ w.cell? ⟨P, 3, none⟩ = some (.int .i64 c) ∧ w.cell? ⟨P, 4, none⟩ = some (.int .i64 d) ∧
  w.cell? ⟨W.heap.size, 0, none⟩ = some (.int .i64 t.sale) ∧ w.cell? ⟨W.heap.size, 1, none⟩ = some (.int .i64 t.cash) ∧ w.cell? ⟨W.heap.size, 2, none⟩ = some (.int .i64 t.bonus) ∧ w.cell? ⟨W.heap.size, 3, none⟩ = some (.int .i64 t.above)
theorem Earn.at_ {W w : World} {g P : Nat} {t : Rt.Tm} {x : Rt.St} {c d : Int} (h : Earn W w g t x P c d) : EarnCells W w t x P c d := by
  obtain ⟨a0, a1, a2, a3, a4⟩ := h.sit.cells
  exact ⟨h.blk.cell 0, h.blk.cell 1, h.blk.cell 2, h.blk.cell 3, h.blk.cell 4, a0, a1, a2, a3⟩
theorem open_earn {W w : World} {g P : Nat} {t : Rt.Tm} {x : Rt.St} {c d : Int} (h : Earn W w g t x P c d) (ht : Rt.okT t) (hV : setC t x = #[.int .i64 x.s, .int .i64 x.r, .int .i64 x.c, .int .i64 c, .int .i64 d]) :
    Calls Try.prog 26 #[.pointer (some ⟨g, 0, none⟩)] w fun e w' => e = .returned (.agg #[.int .i64 x.s, .int .i64 x.r, .int .i64 x.c, .int .i64 c, .int .i64 d]) ∧ EarnCells W w' t x P c d ∧ Earn W w' g t x P c d := by
  refine (open_at h.sit.obj ht h.sit.okx hV).mono ?_
  rintro e w1 ⟨rfl, hb⟩
  exact ⟨rfl, (h.keep hb).at_, h.keep hb⟩

set_option maxHeartbeats 2000000 in
set_option maxRecDepth 100000 in
theorem retailerEarns_walk (W : World) {t : Rt.Tm} (_ : t = t) {A : Option Addr} {n c : Nat} {K M : Nat → Int} (hn : n ≤ c) (hc : c ≤ maxLen) (h : Cells W A (n * 2) (Two K M)) (hw : ∀ i, i < n → (Lit.int .i64 (K i)).wf = true ∧ (Lit.int .i64 (M i)).wf = true) :
    Calls Try.prog 8 #[.agg (termsC t), .slice A n c] W fun e w' => e = .returned (.bool true) ∧ Below W.heap.size W w' := by
  unfold maxLen at hc
  clear hw
  unfold termsC
  by_cases ht : Rt.okT t
  · have HT := Lib.hid ht
    by_cases h80 : 80 < n
    · clear ht
      go_enter Try.func8, Try.ntmps8
      go_wp2_with fail
      refine (new_sit HT.out).mono ?_
      rintro e w1 ⟨g, rfl, hs⟩
      go_wp2_with fail
      refine (awake49 _).mono ?_
      rintro e w2 ⟨rfl, hb2⟩
      have HB := Lib.hid (Below.on hs.below hb2)
      clear hs hb2
      go_wp2
      go_ret
      exact ⟨rfl, HB.out⟩
    · obtain ⟨⟨l0, l1⟩, ⟨m0, m1⟩, ⟨n0, n1⟩, ⟨v0, v1⟩, ⟨k0, k1⟩⟩ := ht
      go_enter Try.func8, Try.ntmps8
      go_wp2_with fail
      refine (new_sit HT.out).mono ?_
      rintro e w1 ⟨g, rfl, hs⟩
      have HS := Lib.hid hs
      clear hs
      go_wp2_with fail
      go_loopw [7] (fun i wr => ∃ (k : Nat) (x : Rt.St), k ≤ n ∧ i = .int .i64 k ∧ Sit W wr g t x) (fun i _ => n - (intOf i).toNat)
      case atStart => exact ⟨0, Rt.zero, Nat.zero_le _, rfl, HS.out⟩
      case round =>
        clear HS
        obtain ⟨k, x0, hk, rfl, hs⟩ := hrel
        have HS := Lib.hid hs
        clear hs
        by_cases hkn : k < n
        · obtain ⟨x, hx'⟩ : ∃ x', Rt.nxt t x0 (K k) (M k) = x' := ⟨_, rfl⟩
          have hok := Rt.okS_nxt (t := t) (k := K k) (a := M k) HS.out.okx
          rw [hx'] at hok
          have HOK := Lib.hid hok
          have hpb := Rt.pos_bd hok
          have hob := Rt.over_bd HT.out hok
          obtain ⟨⟨s0, s1⟩, ⟨r0, r1⟩, ⟨c0, c1⟩⟩ := hok
          obtain ⟨p, hp⟩ : ∃ p, Rt.pos x = p := ⟨_, rfl⟩
          obtain ⟨o, ho⟩ : ∃ o, Rt.over t x = o := ⟨_, rfl⟩
          rw [hp] at hpb
          rw [ho] at hob
          obtain ⟨p0, p1⟩ := hpb
          obtain ⟨o0, o1⟩ := hob
          obtain ⟨y1, hy1⟩ : ∃ y, p * t.sale / 10000 = y := ⟨_, rfl⟩
          obtain ⟨y2, hy2⟩ : ∃ y, x.c * t.cash / 10000 = y := ⟨_, rfl⟩
          obtain ⟨y3, hy3⟩ : ∃ y, o * t.bonus / 10000 = y := ⟨_, rfl⟩
          have hb1 := Rt.part_bd p0 p1 l0 l1
          have hb2 := Rt.part_bd c0 c1 m0 m1
          have hb3 := Rt.part_bd o0 o1 n0 n1
          rw [hy1] at hb1
          rw [hy2] at hb2
          rw [hy3] at hb3
          obtain ⟨y10, y11⟩ := hb1
          obtain ⟨y20, y21⟩ := hb2
          obtain ⟨y30, y31⟩ := hb3
          have hcom : Rt.com t x = y1 + y2 + y3 := by unfold Rt.com; rw [hp, ho, hy1, hy2, hy3]
          obtain ⟨d, hset⟩ : ∃ d, setC t x = #[.int .i64 x.s, .int .i64 x.r, .int .i64 x.c, .int .i64 (y1 + y2 + y3), .int .i64 d] := ⟨Rt.due t x, by unfold setC; rw [hcom]⟩
          have hp' : (if x.s - x.r < 0 then 0 else x.s - x.r) = p := by unfold Rt.pos at hp; exact hp
          have ho' : (if p - t.above < 0 then 0 else p - t.above) = o := by unfold Rt.over at ho; rw [hp] at ho; exact ho
          obtain ⟨y, o0', o1', o2', o3', o4', hyy, hout⟩ : ∃ y a b c d e : Int, Rt.err t x0 (K k) (M k) = y ∧ outC t x0 (K k) = #[.int .i64 a, .int .i64 b, .int .i64 c, .int .i64 d, .int .i64 e] := by
            obtain ⟨a, b, c, d, e, hh⟩ := out_letters t x0 (K k)
            exact ⟨_, a, b, c, d, e, rfl, hh⟩
          obtain ⟨b, off, rfl, hlt, hc1, hc2⟩ := (h.below HS.out.below).two hkn
          have HN := Lib.hid hx'
          have HY := Lib.hid hyy
          have HO := Lib.hid hout
          have HV := Lib.hid hset
          have HY1 := Lib.hid hy1
          have HY2 := Lib.hid hy2
          have HY3 := Lib.hid hy3
          clear hx' hyy hout hset hcom hp ho hy1 hy2 hy3
          go_wp2_with fail
          refine (act_at HS.out.obj HT.out HS.out.okx HN.out HY.out HO.out).mono ?_
          rintro e w3 ⟨rfl, ho3, hb3⟩
          replace HS := Lib.hid (HS.out.told HOK.out ho3 hb3)
          clear ho3 hb3 hc1 hc2 hlt
          go_wp2_with fail
          refine (open_at HS.out.obj HT.out HOK.out HV.out).mono ?_
          rintro e w4 ⟨rfl, hb4⟩
          have hE : Earn W (w4.alloc (.cells #[.int .i64 x.s, .int .i64 x.r, .int .i64 x.c, .int .i64 (y1 + y2 + y3), .int .i64 d] 44)) g t x w4.heap.size (y1 + y2 + y3) d :=
            ⟨(HS.out.keep hb4).alloc _, Blk.new w4 _ _⟩
          have HE := Lib.hid hE
          clear hb4 hE
          obtain ⟨P, hPe⟩ : ∃ P, P = w4.heap.size := ⟨_, rfl⟩
          rw [← hPe] at HE
          have HPe := Lib.hid hPe
          clear hPe
          by_cases hsr : 0 < x.s - x.r
          · rw [if_neg (by omega)] at hp'
            subst hp'
            by_cases hov : 0 < x.s - x.r - t.above
            · rw [if_neg (by omega)] at ho'
              subst ho'
              go_wp2_with fail
              rw [← HPe.out]
              generalize w4.alloc (.cells #[.int .i64 x.s, .int .i64 x.r, .int .i64 x.c, .int .i64 (y1 + y2 + y3), .int .i64 d] 44) = w5 at HE ⊢
              obtain ⟨a0, a1, a2, a3, a4, a5, a6, a7, a8⟩ := HE.out.at_
              have hE := HE.out.drew
              have z3 : IntKind.i64.wrap (x.s - x.r - t.above) = x.s - x.r - t.above := IntWalk.i64_in _ (by omega)
              have z4 : (t.above < x.s - x.r) = True := eq_true (by omega)
              have z1 : IntKind.i64.wrap (y1 + y2) = y1 + y2 := IntWalk.i64_in _ (by omega)
              have z2 : IntKind.i64.wrap (y1 + y2 + y3) = y1 + y2 + y3 := IntWalk.i64_in _ (by omega)
              go_region_held3 (fun w' => w'.cell? ⟨P, 0, none⟩ = some (.int .i64 x.s) ∧ w'.cell? ⟨P, 1, none⟩ = some (.int .i64 x.r) ∧ w'.cell? ⟨P, 2, none⟩ = some (.int .i64 x.c) ∧ w'.cell? ⟨P, 3, none⟩ = some (.int .i64 (y1 + y2 + y3)) ∧ w'.cell? ⟨P, 4, none⟩ = some (.int .i64 d) ∧ w'.cell? ⟨W.heap.size, 0, none⟩ = some (.int .i64 t.sale) ∧ w'.cell? ⟨W.heap.size, 1, none⟩ = some (.int .i64 t.cash) ∧ w'.cell? ⟨W.heap.size, 2, none⟩ = some (.int .i64 t.bonus) ∧ w'.cell? ⟨W.heap.size, 3, none⟩ = some (.int .i64 t.above) ∧ Earn W w' g t x P (y1 + y2 + y3) d)
                (first
                  | go_keep
                  | (refine ⟨?_, ?_, ?_, ?_, ?_, ?_, ?_, ?_, ?_, ?_⟩ <;> first | assumption | exact Earn.drew (by assumption) | exact Earn.drewN (by assumption) _))
                (first
                  | (go_at_call 26; refine (open_earn (W := W) (P := P) (x := x) (c := y1 + y2 + y3) (d := d) ?_ HT.out HV.out).mono ?_; (first | assumption | exact Earn.drew (by assumption) | exact Earn.drewN (by assumption) _); rintro e w6 ⟨rfl, ⟨e0, e1, e2, e3, e4, e5, e6, e7, e8⟩, hE2⟩)
                  | (go_at_call 31; (with_reducible refine (lpart_at p0 p1 l0 l1 HY1.out).mono ?_); rintro e w7 ⟨rfl, rfl⟩)
                  | (go_at_call 31; (with_reducible refine (lpart_at c0 c1 m0 m1 HY2.out).mono ?_); rintro e w7 ⟨rfl, rfl⟩)
                  | (go_at_call 31; (with_reducible refine (lpart_at o0 o1 n0 n1 HY3.out).mono ?_); rintro e w7 ⟨rfl, rfl⟩))
              all_goals
                have HE2 := Lib.hid hE2
                clear z1 z2 z3 z4 e0 e1 e2 e3 e4 e5 e6 e7 e8 hE2
                go_wp2
                go_roundw
                case rel => exact ⟨k + 1, x, by omega, by go_num, HE2.out.sit⟩
                case measure => simp [intOf]; omega
            · have ho2 : 0 = o := by
                by_cases e : x.s - x.r - t.above < 0
                · rw [if_pos e] at ho'; exact ho'
                · rw [if_neg e] at ho'; omega
              clear ho'
              subst ho2
              go_wp2_with fail
              rw [← HPe.out]
              generalize w4.alloc (.cells #[.int .i64 x.s, .int .i64 x.r, .int .i64 x.c, .int .i64 (y1 + y2 + y3), .int .i64 d] 44) = w5 at HE ⊢
              obtain ⟨a0, a1, a2, a3, a4, a5, a6, a7, a8⟩ := HE.out.at_
              have hE := HE.out.drew
              have z3 : IntKind.i64.wrap (x.s - x.r - t.above) = x.s - x.r - t.above := IntWalk.i64_in _ (by omega)
              have z4 : (t.above < x.s - x.r) = False := eq_false (by omega)
              have z1 : IntKind.i64.wrap (y1 + y2) = y1 + y2 := IntWalk.i64_in _ (by omega)
              have z2 : IntKind.i64.wrap (y1 + y2 + y3) = y1 + y2 + y3 := IntWalk.i64_in _ (by omega)
              go_region_held3 (fun w' => w'.cell? ⟨P, 0, none⟩ = some (.int .i64 x.s) ∧ w'.cell? ⟨P, 1, none⟩ = some (.int .i64 x.r) ∧ w'.cell? ⟨P, 2, none⟩ = some (.int .i64 x.c) ∧ w'.cell? ⟨P, 3, none⟩ = some (.int .i64 (y1 + y2 + y3)) ∧ w'.cell? ⟨P, 4, none⟩ = some (.int .i64 d) ∧ w'.cell? ⟨W.heap.size, 0, none⟩ = some (.int .i64 t.sale) ∧ w'.cell? ⟨W.heap.size, 1, none⟩ = some (.int .i64 t.cash) ∧ w'.cell? ⟨W.heap.size, 2, none⟩ = some (.int .i64 t.bonus) ∧ w'.cell? ⟨W.heap.size, 3, none⟩ = some (.int .i64 t.above) ∧ Earn W w' g t x P (y1 + y2 + y3) d)
                (first
                  | go_keep
                  | (refine ⟨?_, ?_, ?_, ?_, ?_, ?_, ?_, ?_, ?_, ?_⟩ <;> first | assumption | exact Earn.drew (by assumption) | exact Earn.drewN (by assumption) _))
                (first
                  | (go_at_call 26; refine (open_earn (W := W) (P := P) (x := x) (c := y1 + y2 + y3) (d := d) ?_ HT.out HV.out).mono ?_; (first | assumption | exact Earn.drew (by assumption) | exact Earn.drewN (by assumption) _); rintro e w6 ⟨rfl, ⟨e0, e1, e2, e3, e4, e5, e6, e7, e8⟩, hE2⟩)
                  | (go_at_call 31; (with_reducible refine (lpart_at p0 p1 l0 l1 HY1.out).mono ?_); rintro e w7 ⟨rfl, rfl⟩)
                  | (go_at_call 31; (with_reducible refine (lpart_at c0 c1 m0 m1 HY2.out).mono ?_); rintro e w7 ⟨rfl, rfl⟩)
                  | (go_at_call 31; (with_reducible refine (lpart_at o0 o1 n0 n1 HY3.out).mono ?_); rintro e w7 ⟨rfl, rfl⟩))
              all_goals
                have HE2 := Lib.hid hE2
                clear z1 z2 z3 z4 e0 e1 e2 e3 e4 e5 e6 e7 e8 hE2
                go_wp2
                go_roundw
                case rel => exact ⟨k + 1, x, by omega, by go_num, HE2.out.sit⟩
                case measure => simp [intOf]; omega
          · have hp2 : 0 = p := by
              by_cases e : x.s - x.r < 0
              · rw [if_pos e] at hp'; exact hp'
              · rw [if_neg e] at hp'; omega
            have ho2 : 0 = o := by
              by_cases e : p - t.above < 0
              · rw [if_pos e] at ho'; exact ho'
              · rw [if_neg e] at ho'; omega
            clear hp' ho'
            subst hp2 ho2
            go_wp2_with fail
            rw [← HPe.out]
            generalize w4.alloc (.cells #[.int .i64 x.s, .int .i64 x.r, .int .i64 x.c, .int .i64 (y1 + y2 + y3), .int .i64 d] 44) = w5 at HE ⊢
            obtain ⟨a0, a1, a2, a3, a4, a5, a6, a7, a8⟩ := HE.out.at_
            have hE := HE.out.drew
            have z3 : IntKind.i64.wrap (0 - t.above) = 0 - t.above := IntWalk.i64_in _ (by omega)
            have z4 : (t.above < 0) = False := eq_false (by omega)
            have z5 : IntKind.i64.wrap (-t.above) = -t.above := IntWalk.i64_in _ (by omega)
            have z6 : (0 < -t.above) = False := eq_false (by omega)
            have z1 : IntKind.i64.wrap (y1 + y2) = y1 + y2 := IntWalk.i64_in _ (by omega)
            have z2 : IntKind.i64.wrap (y1 + y2 + y3) = y1 + y2 + y3 := IntWalk.i64_in _ (by omega)
            go_region_held3 (fun w' => w'.cell? ⟨P, 0, none⟩ = some (.int .i64 x.s) ∧ w'.cell? ⟨P, 1, none⟩ = some (.int .i64 x.r) ∧ w'.cell? ⟨P, 2, none⟩ = some (.int .i64 x.c) ∧ w'.cell? ⟨P, 3, none⟩ = some (.int .i64 (y1 + y2 + y3)) ∧ w'.cell? ⟨P, 4, none⟩ = some (.int .i64 d) ∧ w'.cell? ⟨W.heap.size, 0, none⟩ = some (.int .i64 t.sale) ∧ w'.cell? ⟨W.heap.size, 1, none⟩ = some (.int .i64 t.cash) ∧ w'.cell? ⟨W.heap.size, 2, none⟩ = some (.int .i64 t.bonus) ∧ w'.cell? ⟨W.heap.size, 3, none⟩ = some (.int .i64 t.above) ∧ Earn W w' g t x P (y1 + y2 + y3) d)
              (first
                | go_keep
                | (refine ⟨?_, ?_, ?_, ?_, ?_, ?_, ?_, ?_, ?_, ?_⟩ <;> first | assumption | exact Earn.drew (by assumption) | exact Earn.drewN (by assumption) _))
              (first
                | (go_at_call 26; refine (open_earn (W := W) (P := P) (x := x) (c := y1 + y2 + y3) (d := d) ?_ HT.out HV.out).mono ?_; (first | assumption | exact Earn.drew (by assumption) | exact Earn.drewN (by assumption) _); rintro e w6 ⟨rfl, ⟨e0, e1, e2, e3, e4, e5, e6, e7, e8⟩, hE2⟩)
                | (go_at_call 31; (with_reducible refine (lpart_at p0 p1 l0 l1 HY1.out).mono ?_); rintro e w7 ⟨rfl, rfl⟩)
                | (go_at_call 31; (with_reducible refine (lpart_at c0 c1 m0 m1 HY2.out).mono ?_); rintro e w7 ⟨rfl, rfl⟩)
                | (go_at_call 31; (with_reducible refine (lpart_at o0 o1 n0 n1 HY3.out).mono ?_); rintro e w7 ⟨rfl, rfl⟩))
            all_goals
              have HE2 := Lib.hid hE2
              clear z5 z6 z1 z2 z3 z4 e0 e1 e2 e3 e4 e5 e6 e7 e8 hE2
              go_wp2
              go_roundw
              case rel => exact ⟨k + 1, x, by omega, by go_num, HE2.out.sit⟩
              case measure => simp [intOf]; omega
        · obtain rfl : k = n := by omega
          go_wp2_with fail
          refine (awake49 _).mono ?_
          rintro e w2 ⟨rfl, hb2⟩
          have HB := Lib.hid (Below.on HS.out.below hb2)
          clear hb2
          go_wp2
          go_ret
          exact ⟨rfl, HB.out⟩
  · have HT := Lib.hid ht
    clear ht
    go_enter Try.func8, Try.ntmps8
    go_wp2_with fail
    refine (new_bad_at HT.out).mono ?_
    rintro e w1 ⟨rfl, hb1⟩
    go_wp2_with fail
    refine (awake49 _).mono ?_
    rintro e w2 ⟨rfl, hb2⟩
    have HB := Lib.hid (Below.on hb1 hb2)
    clear hb1 hb2
    go_wp2
    go_ret
    exact ⟨rfl, HB.out⟩
end Go.Proofs.Ytpalmlcepppifaa
