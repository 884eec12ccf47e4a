/- The law FairnessHits. -/
import Derived.Test.YtiflmnmkmpjecaaFaAwake
import Derived.Test.YtiflmnmkmpjecaaG5
import Derived.Test.YtiflmnmkmpjecaaFaRHits
import Derived.Test.YtiflmnmkmpjecaaFaRHitD
import Derived.Test.YtiflmnmkmpjecaaRows
import Derived.Deep.WholeRow
set_option linter.unusedVariables false
namespace Go.Proofs.Ytiflmnmkmpjecaa
open Go.RowKit
namespace Fa
open Fr
theorem says_res {W : World} {f : FuncId} {args : Array Value} {p q : Nat} (hp : L32 p ≤ 64) (hq : L32 q ≤ 64) (h : ∀ w', Calls Try.prog f args w' fun e w'' => Res w'.heap.size w'' e p q ∧ Below w'.heap.size w' w'') : Says W f args p q 0 :=
  fun w' _ => (h w').mono fun _ _ ⟨k1, k2⟩ => ⟨Gw.res k1 hp hq, k2⟩
theorem says_err {W : World} {f : FuncId} {args : Array Value} {y : Nat} (h : ∀ w', Calls Try.prog f args w' fun e w'' => Err e y ∧ Below w'.heap.size w' w'') : Says W f args 0 0 (y : Int) :=
  fun w' _ => (h w').mono fun _ _ ⟨k1, k2⟩ => ⟨Gw.err k1, k2⟩
theorem hits_says (W : World) (k m o h : Int) : ∃ (p q : Nat) (y : Int), Says W 26 #[.agg (gc k m o), .int .i64 h] p q y ∧ Says W 27 #[.agg (gc k m o), .int .i64 h] p q y := by
  have q64 : L32 (0 / Nat.gcd 0 1) ≤ 64 := small64 (by decide)
  have r64 : L32 (1 / Nat.gcd 0 1) ≤ 64 := small64 (by decide)
  by_cases hk : k = 1
  · subst hk
    by_cases hb : o < 0 ∨ 0 ≤ o ∧ 80 < o ∨ 0 ≤ o ∧ o ≤ 80 ∧ m < 0 ∨ 0 ≤ o ∧ o ≤ 80 ∧ 0 ≤ m ∧ o < m
    · exact ⟨0, 0, 2, says_err fun w' => hits_bad1 w' hb, says_err fun w' => rhits_bad1 w' hb⟩
    · obtain ⟨m, rfl⟩ := Int.eq_ofNat_of_zero_le (show 0 ≤ m by omega)
      obtain ⟨o, rfl⟩ := Int.eq_ofNat_of_zero_le (show 0 ≤ o by omega)
      have hmo : m ≤ o := by omega
      have ho : o ≤ 80 := by omega
      by_cases hh : h < 0 ∨ 0 ≤ h ∧ (m : Int) < h
      · exact ⟨_, _, 0, says_res q64 r64 fun w' => hits_none1 w' hmo ho hh, fun w' _ => rhits_none1 w' hmo ho hh⟩
      · have h1 := len_div (g := Nat.gcd (hc m o h) (cb o m)) (Nat.le_trans (hc_len (m := m) (o := o) (by omega) ho h) (by omega))
        have h2 := len_div (g := Nat.gcd (hc m o h) (cb o m)) (Nat.le_trans (cb_len (n := o) (k := m) ho hmo) (by omega))
        exact ⟨_, _, 0, says_res h1 h2 fun w' => hits_choose w' hmo ho (by omega) (by omega) rfl rfl, says_res h1 h2 fun w' => rhits_choose w' hmo ho (by omega) (by omega) rfl rfl⟩
  · by_cases hk2 : k = 2
    · subst hk2
      by_cases hb : o < 1 ∨ 1 ≤ o ∧ 10 < o ∨ 1 ≤ o ∧ o ≤ 10 ∧ m < 0 ∨ 1 ≤ o ∧ o ≤ 10 ∧ 0 ≤ m ∧ 10 < m
      · exact ⟨0, 0, 2, says_err fun w' => hits_bad2 w' hb, says_err fun w' => rhits_bad2 w' hb⟩
      · obtain ⟨m, rfl⟩ := Int.eq_ofNat_of_zero_le (show 0 ≤ m by omega)
        obtain ⟨o, rfl⟩ := Int.eq_ofNat_of_zero_le (show 0 ≤ o by omega)
        have ho1 : 1 ≤ o := by omega
        have ho : o ≤ 10 := by omega
        have hm : m ≤ 10 := by omega
        by_cases hh : h < 0 ∨ 0 ≤ h ∧ (m : Int) < h
        · exact ⟨_, _, 0, says_res q64 r64 fun w' => hits_none2 w' ho1 ho hm hh, fun w' _ => rhits_none2 w' ho1 ho hm hh⟩
        · obtain ⟨h, rfl⟩ := Int.eq_ofNat_of_zero_le (show 0 ≤ h by omega)
          have hhm : h ≤ m := by omega
          have h1 := len_div (g := Nat.gcd (cz m h * (o - 1) ^ (m - h)) (o ^ m)) (show L32 (cz m h * (o - 1) ^ (m - h)) ≤ 64 from Nat.le_trans (prod_len (cz_len (by omega) (h : Int)) (pow_small (k := 2) (by omega) (by omega) (by omega))) (by omega))
          have h2 := len_div (g := Nat.gcd (cz m h * (o - 1) ^ (m - h)) (o ^ m)) (pow_small (k := 64) ho hm (by omega))
          exact ⟨_, _, 0, says_res h1 h2 fun w' => hits_digit w' ho1 ho hm hhm rfl rfl rfl, says_res h1 h2 fun w' => rhits_digit w' ho1 ho hm hhm rfl rfl rfl⟩
    · exact ⟨0, 0, 7, says_err fun w' => hits_bad3 w' ⟨hk, hk2⟩, says_err fun w' => rhits_bad3 w' ⟨hk, hk2⟩⟩
set_option maxHeartbeats 8000000 in
set_option maxRecDepth 100000 in
theorem hits_law {W : World} {k m o : Int} :
    Calls Try.prog 8 #[.int .i64 k, .int .i64 m, .int .i64 o] W fun e w' => e = .returned (.bool true) ∧ Below W.heap.size W w' := by
  have HS := fun h => hits_says W k m o h
  unfold Says at HS
  have BS0 : Hid (Bs W (W.alloc (.cells (gc k m o) TG)) [(W.heap.size, TG, gc k m o)]) := Lib.hid ((Bs.nil W).alloc TG (gc k m o))
  unfold gc at HS BS0
  have HH := Lib.hid HS
  clear HS
  go_enter Try.func8, Try.ntmps8
  go_upto_region 1 with (fail)
  go_upto_region 2 with (refine wpList_store_row rfl TG _ _ rfl W.heap.size #[.string ⟨#[]⟩, .int .i64 k, .int .i64 0, .int .i64 m, .int .i64 o, .int .i64 0, .int .i64 0, .int .i64 0, .int .i64 0, .int .i64 0, .int .i64 0, .int .i64 0, .int .i64 0, .int .i64 0, .int .i64 0, .int .i64 0, .int .i64 0, .int .i64 0, .int .i64 0, .int .i64 0, .slice none 0 0, .slice none 0 0] rfl rfl TG #[.string ⟨#[]⟩, .int .i64 0, .int .i64 0, .int .i64 0, .int .i64 0, .int .i64 0, .int .i64 0, .int .i64 0, .int .i64 0, .int .i64 0, .int .i64 0, .int .i64 0, .int .i64 0, .int .i64 0, .int .i64 0, .int .i64 0, .int .i64 0, .int .i64 0, .int .i64 0, .int .i64 0, .slice none 0 0, .slice none 0 0] (heap_alloc_last W _) (by kernel_rfl) rfl (by kernel_rfl) ?_; rw [World.setRow_alloc_new])
  obtain ⟨wa, hwa⟩ : ∃ wa, wa = W.alloc (.cells #[.string ⟨#[]⟩, .int .i64 k, .int .i64 0, .int .i64 m, .int .i64 o, .int .i64 0, .int .i64 0, .int .i64 0, .int .i64 0, .int .i64 0, .int .i64 0, .int .i64 0, .int .i64 0, .int .i64 0, .int .i64 0, .int .i64 0, .int .i64 0, .int .i64 0, .int .i64 0, .int .i64 0, .slice none 0 0, .slice none 0 0] TG) := ⟨_, rfl⟩
  change Code.wp _ _ _ _ (W.alloc (.cells #[.string ⟨#[]⟩, .int .i64 k, .int .i64 0, .int .i64 m, .int .i64 o, .int .i64 0, .int .i64 0, .int .i64 0, .int .i64 0, .int .i64 0, .int .i64 0, .int .i64 0, .int .i64 0, .int .i64 0, .int .i64 0, .int .i64 0, .int .i64 0, .int .i64 0, .int .i64 0, .int .i64 0, .slice none 0 0, .slice none 0 0] TG))
  rw [← hwa] at BS0 ⊢
  obtain ⟨gb, hgb⟩ : ∃ b, b = W.heap.size := ⟨_, rfl⟩
  rw [show (Value.pointer (some ⟨W.heap.size, 0, none⟩)) = .pointer (some ⟨gb, 0, none⟩) by rw [hgb]]
  have bs0 := BS0.out
  rw [show [(W.heap.size, TG, (#[.string ⟨#[]⟩, .int .i64 k, .int .i64 0, .int .i64 m, .int .i64 o, .int .i64 0, .int .i64 0, .int .i64 0, .int .i64 0, .int .i64 0, .int .i64 0, .int .i64 0, .int .i64 0, .int .i64 0, .int .i64 0, .int .i64 0, .int .i64 0, .int .i64 0, .int .i64 0, .int .i64 0, .slice none 0 0, .slice none 0 0] : Array Value))] = [(gb, TG, #[.string ⟨#[]⟩, .int .i64 k, .int .i64 0, .int .i64 m, .int .i64 o, .int .i64 0, .int .i64 0, .int .i64 0, .int .i64 0, .int .i64 0, .int .i64 0, .int .i64 0, .int .i64 0, .int .i64 0, .int .i64 0, .int .i64 0, .int .i64 0, .int .i64 0, .int .i64 0, .int .i64 0, .slice none 0 0, .slice none 0 0])] by rw [hgb]] at bs0
  have BS := Lib.hid bs0
  clear hwa hgb BS0 bs0
  go_wp2
  go_loopw [8] (fun s8 wr => ∃ h : Int, -1 ≤ h ∧ h ≤ 13 ∧ s8 = .int .i64 h ∧ Hid (Bs W wr [(gb, TG, #[.string ⟨#[]⟩, .int .i64 k, .int .i64 0, .int .i64 m, .int .i64 o, .int .i64 0, .int .i64 0, .int .i64 0, .int .i64 0, .int .i64 0, .int .i64 0, .int .i64 0, .int .i64 0, .int .i64 0, .int .i64 0, .int .i64 0, .int .i64 0, .int .i64 0, .int .i64 0, .int .i64 0, .slice none 0 0, .slice none 0 0])])) (fun i _ => (13 - intOf i).toNat)
  case atStart => exact ⟨-1, by omega, by omega, rfl, BS⟩
  case round =>
    clear BS
    obtain ⟨h, hh0, hh1, rfl, HBS⟩ := hrel
    by_cases hh : h ≤ 12
    · as_aux_lemma =>
      obtain ⟨p, q, y, hk, hr⟩ := HH.out h
      have HK := Lib.hid hk
      have HR := Lib.hid hr
      have hyy : (y == y) = true := by simp
      have hw1 : IntKind.i64.wrap (h + 1) = h + 1 := IntWalk.i64_in _ (by omega)
      have HN := Lib.hid (show -1 ≤ h ∧ h ≤ 12 from ⟨hh0, hh⟩)
      clear hk hr hh0 hh1
      have KG := Lib.hid (show wr.heap[gb]? = some (.cells #[.string ⟨#[]⟩, .int .i64 k, .int .i64 0, .int .i64 m, .int .i64 o, .int .i64 0, .int .i64 0, .int .i64 0, .int .i64 0, .int .i64 0, .int .i64 0, .int .i64 0, .int .i64 0, .int .i64 0, .int .i64 0, .int .i64 0, .int .i64 0, .int .i64 0, .int .i64 0, .int .i64 0, .slice none 0 0, .slice none 0 0] TG (0, 0)) from (HBS.out.get (.head _)).2.2)
      go_wp2_with (refine wpList_load_row rfl TG _ rfl gb rfl TG _ (0, 0) _ KG.out Try.underlying50 rfl (by kernel_rfl) ?_)
      (with_reducible refine (HK.out _ HBS.out.below).mono ?_)
      rintro e w2 ⟨⟨D1, l1, c1, E1, m1, k1, rfl, a1, b1, hl, hm, hc, hd⟩, hb⟩
      have BQ2 := Lib.hid (HBS.out.on hb)
      have BS2 := Lib.hid (BQ2.out.alloc TF #[.slice D1 l1 c1, .slice E1 m1 k1])
      have X1 := Lib.hid (hc.alloc (.cells #[.slice D1 l1 c1, .slice E1 m1 k1] TF))
      have Y1 := Lib.hid (hd.alloc (.cells #[.slice D1 l1 c1, .slice E1 m1 k1] TF))
      have L1 := Lib.hid hl
      have M1 := Lib.hid hm
      clear hb hl hm hc hd HBS BQ2 KG
      have KG := Lib.hid (show (w2.alloc (.cells #[.slice D1 l1 c1, .slice E1 m1 k1] TF)).heap[gb]? = some (.cells #[.string ⟨#[]⟩, .int .i64 k, .int .i64 0, .int .i64 m, .int .i64 o, .int .i64 0, .int .i64 0, .int .i64 0, .int .i64 0, .int .i64 0, .int .i64 0, .int .i64 0, .int .i64 0, .int .i64 0, .int .i64 0, .int .i64 0, .int .i64 0, .int .i64 0, .int .i64 0, .int .i64 0, .slice none 0 0, .slice none 0 0] TG (0, 0)) from (BS2.out.get (.tail _ (.head _))).2.2)
      go_wp2_with (refine wpList_load_row rfl TG _ rfl gb rfl TG _ (0, 0) _ KG.out Try.underlying50 rfl (by kernel_rfl) ?_)
      (with_reducible refine (HR.out _ BS2.out.below).mono ?_)
      rintro e w3 ⟨⟨D2, l2, c2, E2, m2, k2, rfl, a2, b2, hl, hm, hc, hd⟩, hb⟩
      have BQ3 := Lib.hid (BS2.out.on hb)
      have BS3 := Lib.hid (BQ3.out.alloc TF #[.slice D2 l2 c2, .slice E2 m2 k2])
      have X2 := Lib.hid (hc.alloc (.cells #[.slice D2 l2 c2, .slice E2 m2 k2] TF))
      have Y2 := Lib.hid (hd.alloc (.cells #[.slice D2 l2 c2, .slice E2 m2 k2] TF))
      replace X1 := Lib.hid ((X1.out.below hb).alloc (.cells #[.slice D2 l2 c2, .slice E2 m2 k2] TF))
      replace Y1 := Lib.hid ((Y1.out.below hb).alloc (.cells #[.slice D2 l2 c2, .slice E2 m2 k2] TF))
      have L2 := Lib.hid hl
      have M2 := Lib.hid hm
      obtain ⟨wd, hwd⟩ : ∃ wd, wd = w3.alloc (.cells #[.slice D2 l2 c2, .slice E2 m2 k2] TF) := ⟨_, rfl⟩
      rw [← hwd] at BS3 X1 Y1 X2 Y2
      obtain ⟨_, ta, ka⟩ := BS3.out.get (.tail _ (.head _))
      obtain ⟨_, tb, kb⟩ := BS3.out.get (.head _)
      have q0 : wd.cell? ⟨w2.heap.size, 0, none⟩ = some (.slice D1 l1 c1) := ka.cell 0
      have q1 : wd.cell? ⟨w2.heap.size, 1, none⟩ = some (.slice E1 m1 k1) := ka.cell 1
      have q2 : wd.cell? ⟨w3.heap.size, 0, none⟩ = some (.slice D2 l2 c2) := kb.cell 0
      have q3 : wd.cell? ⟨w3.heap.size, 1, none⟩ = some (.slice E2 m2 k2) := kb.cell 1
      clear hb hl hm hc hd BS2 BQ3 KG ka kb
      go_upto_region 7 with (fail)
      change Code.wp _ _ _ _ (w3.alloc (.cells #[.slice D2 l2 c2, .slice E2 m2 k2] TF))
      rw [← hwd]
      clear hwd
      go_wp2_with fail
      refine (same_eq a1 b1 a2 b2 L1.out M1.out L2.out M2.out X1.out Y1.out X2.out Y2.out).mono ?_
      rintro e w6 ⟨rfl, hb⟩
      have BS6 := Lib.hid (BS3.out.on hb)
      clear hb q0 q1 q2 q3 ta tb BS3
      go_wp2
      go_roundw
      case rel => exact ⟨h + 1, by have := HN.out.1; omega, by have := HN.out.2; omega, rfl, Lib.hid (BS6.out.sub fun x hx => by
        rcases List.mem_singleton.1 hx with rfl
        simp)⟩
      case measure => have := HN.out; simp [intOf] <;> omega
    · as_aux_lemma =>
      obtain ⟨p, q, y, hk, hr⟩ := HH.out m
      have HK := Lib.hid hk
      have HR := Lib.hid hr
      have hyy : (y == y) = true := by simp
      clear hk hr hh0 hh1
      have KG := Lib.hid (show wr.heap[gb]? = some (.cells #[.string ⟨#[]⟩, .int .i64 k, .int .i64 0, .int .i64 m, .int .i64 o, .int .i64 0, .int .i64 0, .int .i64 0, .int .i64 0, .int .i64 0, .int .i64 0, .int .i64 0, .int .i64 0, .int .i64 0, .int .i64 0, .int .i64 0, .int .i64 0, .int .i64 0, .int .i64 0, .int .i64 0, .slice none 0 0, .slice none 0 0] TG (0, 0)) from (HBS.out.get (.head _)).2.2)
      go_wp2_with (refine wpList_load_row rfl TG _ rfl gb rfl TG _ (0, 0) _ KG.out Try.underlying50 rfl (by kernel_rfl) ?_)
      (with_reducible refine (HK.out _ HBS.out.below).mono ?_)
      rintro e w2 ⟨⟨D1, l1, c1, E1, m1, k1, rfl, a1, b1, hl, hm, hc, hd⟩, hb⟩
      have BQ2 := Lib.hid (HBS.out.on hb)
      have BS2 := Lib.hid (BQ2.out.alloc TF #[.slice D1 l1 c1, .slice E1 m1 k1])
      have X1 := Lib.hid (hc.alloc (.cells #[.slice D1 l1 c1, .slice E1 m1 k1] TF))
      have Y1 := Lib.hid (hd.alloc (.cells #[.slice D1 l1 c1, .slice E1 m1 k1] TF))
      have L1 := Lib.hid hl
      have M1 := Lib.hid hm
      clear hb hl hm hc hd HBS BQ2 KG
      have KG := Lib.hid (show (w2.alloc (.cells #[.slice D1 l1 c1, .slice E1 m1 k1] TF)).heap[gb]? = some (.cells #[.string ⟨#[]⟩, .int .i64 k, .int .i64 0, .int .i64 m, .int .i64 o, .int .i64 0, .int .i64 0, .int .i64 0, .int .i64 0, .int .i64 0, .int .i64 0, .int .i64 0, .int .i64 0, .int .i64 0, .int .i64 0, .int .i64 0, .int .i64 0, .int .i64 0, .int .i64 0, .int .i64 0, .slice none 0 0, .slice none 0 0] TG (0, 0)) from (BS2.out.get (.tail _ (.head _))).2.2)
      go_wp2_with (refine wpList_load_row rfl TG _ rfl gb rfl TG _ (0, 0) _ KG.out Try.underlying50 rfl (by kernel_rfl) ?_)
      (with_reducible refine (HR.out _ BS2.out.below).mono ?_)
      rintro e w3 ⟨⟨D2, l2, c2, E2, m2, k2, rfl, a2, b2, hl, hm, hc, hd⟩, hb⟩
      have BQ3 := Lib.hid (BS2.out.on hb)
      have BS3 := Lib.hid (BQ3.out.alloc TF #[.slice D2 l2 c2, .slice E2 m2 k2])
      have X2 := Lib.hid (hc.alloc (.cells #[.slice D2 l2 c2, .slice E2 m2 k2] TF))
      have Y2 := Lib.hid (hd.alloc (.cells #[.slice D2 l2 c2, .slice E2 m2 k2] TF))
      replace X1 := Lib.hid ((X1.out.below hb).alloc (.cells #[.slice D2 l2 c2, .slice E2 m2 k2] TF))
      replace Y1 := Lib.hid ((Y1.out.below hb).alloc (.cells #[.slice D2 l2 c2, .slice E2 m2 k2] TF))
      have L2 := Lib.hid hl
      have M2 := Lib.hid hm
      obtain ⟨wd, hwd⟩ : ∃ wd, wd = w3.alloc (.cells #[.slice D2 l2 c2, .slice E2 m2 k2] TF) := ⟨_, rfl⟩
      rw [← hwd] at BS3 X1 Y1 X2 Y2
      obtain ⟨_, ta, ka⟩ := BS3.out.get (.tail _ (.head _))
      obtain ⟨_, tb, kb⟩ := BS3.out.get (.head _)
      have q0 : wd.cell? ⟨w2.heap.size, 0, none⟩ = some (.slice D1 l1 c1) := ka.cell 0
      have q1 : wd.cell? ⟨w2.heap.size, 1, none⟩ = some (.slice E1 m1 k1) := ka.cell 1
      have q2 : wd.cell? ⟨w3.heap.size, 0, none⟩ = some (.slice D2 l2 c2) := kb.cell 0
      have q3 : wd.cell? ⟨w3.heap.size, 1, none⟩ = some (.slice E2 m2 k2) := kb.cell 1
      clear hb hl hm hc hd BS2 BQ3 KG ka kb
      go_upto_region 11 with (fail)
      change Code.wp _ _ _ _ (w3.alloc (.cells #[.slice D2 l2 c2, .slice E2 m2 k2] TF))
      rw [← hwd]
      clear hwd
      go_wp2_with fail
      refine (same_eq a1 b1 a2 b2 L1.out M1.out L2.out M2.out X1.out Y1.out X2.out Y2.out).mono ?_
      rintro e w6 ⟨rfl, hb⟩
      have BS6 := Lib.hid (BS3.out.on hb)
      clear hb q0 q1 q2 q3 ta tb BS3
      go_wp2_with fail
      refine (awake_any _).mono ?_
      rintro e w7 ⟨rfl, hb⟩
      have HB7 := Lib.hid (BS6.out.on hb).below
      clear hb
      go_wp2
      go_ret
      exact ⟨rfl, HB7.out⟩
end Fa
theorem fairnessHits_walk (W : World) (k : Int) (wk : (Lit.int .i64 k).wf = true) (m : Int) (wm : (Lit.int .i64 m).wf = true) (o : Int) (wo : (Lit.int .i64 o).wf = true) :
    Calls Try.prog 8 #[.int .i64 k, .int .i64 m, .int .i64 o] W fun e w' => e = .returned (.bool true) ∧ Below W.heap.size W w' := Fa.hits_law
end Go.Proofs.Ytiflmnmkmpjecaa
