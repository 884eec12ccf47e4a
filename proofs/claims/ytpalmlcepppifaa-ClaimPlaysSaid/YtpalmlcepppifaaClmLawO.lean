/- The walk of the law ClaimOnce. -/
import Derived.Test.YtpalmlcepppifaaClmOnceP
set_option linter.unusedVariables false
namespace Go.Proofs.Ytpalmlcepppifaa
open Go.RowKit Go.Maps Go.ChangeShapes Go.WideElems Go.WideMaps

theorem Tot.bd {A S : Nat → Int} {n k : Nat} {ad pa ol : Int} (h : Tot A S n k ad pa ol) (hk : k ≤ 61) : (0 ≤ pa ∧ pa ≤ 61000000000000) ∧ (0 ≤ ol ∧ ol ≤ 61000000000000) ∧ 0 ≤ ad ∧ ad ≤ 183000000000000 := by
  have h0 := Cm.psum_bd (S := S) (y := 0) h.am
  have h1 := Cm.psum_bd (S := S) (y := 1) h.am
  have h2 := Cm.psum_bd (S := S) (y := 2) h.am
  rw [← h.pa] at h1
  rw [← h.ol] at h2
  have := h.nk
  have := h.ad
  have := h.pa
  have := h.ol
  omega
theorem sum_at {B : Nat} {w : World} {h n k : Nat} {N : Nat → ByteArray} {A F E S : Nat → Int} {ad pa ol x : Int} (c : Claims B w h n N A F E S) (t : Tot A S n k ad pa ol) (hx : Cm.psum A S 0 n = x) :
    Calls Try.prog 36 #[.pointer (some ⟨h, 0, none⟩)] w fun e w' => e = .returned (.tuple #[.int .i64 x, .int .i64 pa, .int .i64 ol]) ∧ Below w.heap.size w w' := by
  rw [t.pa, t.ol, ← hx]; exact sum_any c
theorem copen_at {B : Nat} {w : World} {h n q : Nat} {N : Nat → ByteArray} {A F E S : Nat → Int} (c : Claims B w h n N A F E S) (hq : cnt S n = q) :
    Calls Try.prog 23 #[.pointer (some ⟨h, 0, none⟩)] w fun e w' => e = .returned (.int .i64 q) ∧ w = w' := by
  rw [← hq]; exact copen_any c
theorem claim_at {B : Nat} {w : World} {h n : Nat} {N : Nat → ByteArray} {A F E S : Nat → Int} (c : Claims B w h n N A F E S) (hBw : B ≤ w.heap.size) {s : ByteArray} (hs : s.size ≤ maxLen) {at_ most u y : Int} (hu : Cm.ckV A F E S at_ most (idx N s n) = u) (hy : Cm.ckE A F E S at_ most (idx N s n) = y) :
    Calls Try.prog 20 #[.pointer (some ⟨h, 0, none⟩), .string s, .int .i64 at_, .int .i64 most] w (CLeft B w h n N A F E (clS A F E S at_ most (idx N s n)) (.tuple #[.int .i64 u, .int .i64 y])) := by
  subst hu hy; exact claim_any c hBw hs
theorem expire_at {B : Nat} {w : World} {h n : Nat} {N : Nat → ByteArray} {A F E S : Nat → Int} (c : Claims B w h n N A F E S) (hBw : B ≤ w.heap.size) {at_ u : Int} (hu : Cm.osum A E S at_ n = u) :
    Calls Try.prog 37 #[.pointer (some ⟨h, 0, none⟩), .int .i64 at_] w (CLeft B w h n N A F E (Cm.oldS E S at_ n) (.int .i64 u)) := by
  subst hu; exact expire_any c hBw
/-- An act's box. -/
theorem act_cells {w : World} {b : Nat} {a0 a1 a2 a3 a4 a5 a6 : Value} (h : Blk w b 70 #[a0, a1, a2, a3, a4, a5, a6]) :
    w.cell? ⟨b, 0, none⟩ = some a0 ∧ w.cell? ⟨b, 1, none⟩ = some a1 ∧ w.cell? ⟨b, 2, none⟩ = some a2 ∧ w.cell? ⟨b, 3, none⟩ = some a3 ∧ w.cell? ⟨b, 4, none⟩ = some a4 ∧ w.cell? ⟨b, 5, none⟩ = some a5 ∧ w.cell? ⟨b, 6, none⟩ = some a6 :=
  ⟨h.cell 0, h.cell 1, h.cell 2, h.cell 3, h.cell 4, h.cell 5, h.cell 6⟩
theorem act_kept {w w1 : World} {b : Nat} {cs : Array Value} (h : Blk w b 70 cs) (k : Kp w w1) : Blk w1 b 70 cs := k b cs _ (by decide) (by decide) (by decide) h

set_option maxHeartbeats 8000000 in
set_option maxRecDepth 100000 in
theorem claimOnce_walk (W : World) {D : Option Addr} {m c : Nat} {R : Nat → Ac} (hm : m ≤ c) (hc : c ≤ maxLen) (hD : Cells W D (m * 7) (Seven R)) (hs : ∀ i, i < m → (R i).nm.size ≤ maxLen) :
    Calls Try.prog 16 #[.slice D m c] W fun e w' => e = .returned (.bool true) ∧ Below W.heap.size W w' := by
  unfold maxLen at hc
  go_enter Try.func16, Try.ntmps16
  go_wp2_with fail
  refine (new_at W).mono ?_
  rintro e w1 ⟨h, rfl, ha⟩
  have HA := Lib.hid ha
  clear ha
  go_wp2_with fail
  go_loopw [4, 5, 6, 7] (fun v4 v5 v6 i wr => ∃ (k n : Nat) (N : Nat → ByteArray) (A F E S : Nat → Int) (ad pa ol : Int), k ≤ m ∧ k ≤ 60 ∧ i = .int .i64 k ∧ v4 = .int .i64 ad ∧ v5 = .int .i64 pa ∧ v6 = .int .i64 ol ∧ At W wr h n N A F E S ∧ Tot A S n k ad pa ol) (fun _ _ _ i _ => m - (intOf i).toNat)
  case atStart => exact ⟨0, 0, _, _, _, _, _, 0, 0, 0, Nat.zero_le _, Nat.zero_le _, rfl, rfl, rfl, rfl, HA.out, ⟨rfl, rfl, rfl, fun i hi => absurd hi (by omega), Nat.le_refl _⟩⟩
  case round =>
    clear HA
    obtain ⟨k, n, N, A, F, E, S, ad, pa, ol, hk, hk60, rfl, rfl, rfl, rfl, ha, htot⟩ := hrel
    have HA := Lib.hid ha
    have HT := Lib.hid htot
    clear ha htot
    by_cases hkn : k < m ∧ k < 60
    · obtain ⟨hkm, hk6⟩ := hkn
      obtain ⟨b, off, rfl, hlt, p0, p1, p2, p3, p4, p5, p6⟩ := (hD.below HA.out.below).seven hkm
      obtain ⟨a, hae⟩ : ∃ a, a = R k := ⟨_, rfl⟩
      have hsz := hs k hkm
      rw [← hae] at p0 p1 p2 p3 p4 p5 p6 hsz
      have hn6 : n ≤ 60 := by have := HT.out.nk; omega
      obtain ⟨⟨b0, b1⟩, ⟨b2, b3⟩, b4, b5⟩ := HT.out.bd (by omega)
      have HSZ := Lib.hid hsz
      clear hae hsz
      go_wp2_with fail
      refine (short_any HSZ.out).mono ?_
      rintro e w3 ⟨rfl, hb3⟩
      replace HA := Lib.hid ((HA.out.keep hb3).keep ((Below.refl _ _).alloc (Nat.le_refl _) (.cells #[.int .i64 a.k, .string (cut40 a.nm), .int .i64 a.am, .int .i64 a.fr, .int .i64 a.ex, .int .i64 a.at_, .int .i64 a.mo] 70)))
      have HX := Lib.hid (Blk.new w3 70 #[.int .i64 a.k, .string (cut40 a.nm), .int .i64 a.am, .int .i64 a.fr, .int .i64 a.ex, .int .i64 a.at_, .int .i64 a.mo])
      clear hb3 p0 p1 p2 p3 p4 p5 p6 hlt
      by_cases k0 : a.k = 0
      · have d0 : (a.k == 0) = true := by simp [k0]
        clear k0
        by_cases hy : aerr (cut40 a.nm).size a.am a.fr a.ex = 0
        · obtain ⟨y0, y1, y2, y3, y4, y5, y6⟩ := aerr_ok hy
          clear hy
          go_wp2_with fail
          refine (add_yes HA.out.obj (by omega) HA.out.size y0 y1 y2 y3 y4 y5 y6).mono ?_
          rintro e w4 hk4
          obtain rfl := hk4.1
          have hX4 := act_kept HX.out hk4.2.2.2
          obtain ⟨q0, q1, q2, q3, q4, q5, q6⟩ := act_cells hX4
          replace HA := Lib.hid (HA.out.left hk4)
          replace HT := Lib.hid (HT.out.add y2 y3)
          clear hk4 hX4
          obtain ⟨x, hx⟩ : ∃ x, Cm.psum (upd A n a.am) (upd S n 0) 0 (n + 1) = x := ⟨_, rfl⟩
          have hxe : x = (ad + a.am) - pa - ol := by have h1 := HT.out.ad; have h2 := HT.out.pa; have h3 := HT.out.ol; rw [hx] at h1; omega
          have dx : (x != (ad + a.am) - pa - ol) = false := by simp [hxe]
          obtain ⟨⟨e0, e1⟩, ⟨e2, e3⟩, e4, e5⟩ := HT.out.bd (by omega)
          obtain ⟨q, hq⟩ : ∃ q, cnt (upd S n 0) (n + 1) = q := ⟨_, rfl⟩
          have hz := Cm.cnt_zero (S := (upd S n 0)) HT.out.am
          rw [hq, hx] at hz
          have hx0 : 0 ≤ x := by omega
          have HX0 := Lib.hid hx
          have HQ := Lib.hid hq
          have hq6 : q ≤ 9000000 := by
            have : ∀ j, cnt (upd S n 0) j ≤ j := fun j => by
              induction j with
              | zero => exact Nat.le_refl _
              | succ j ih => simp only [cnt]; split <;> omega
            have h1 := this (n + 1)
            rw [hq] at h1
            omega
          clear hx hq hxe
          rcases hz with ⟨hq0, hxz⟩ | ⟨hq0, hxz⟩
          · subst hq0 hxz
            go_wp2_with fail
            refine (sum_at HA.out.obj HT.out HX0.out).mono ?_
            rintro e w5 ⟨rfl, hb5⟩
            replace HA := Lib.hid (HA.out.keep hb5)
            clear hb5
            go_wp2_with fail
            refine (copen_at HA.out.obj HQ.out).mono ?_
            rintro e w6 ⟨rfl, rfl⟩
            go_wp2_with fail
            refine (copen_at HA.out.obj HQ.out).mono ?_
            rintro e w6 ⟨rfl, rfl⟩
            go_wp2
            go_roundw
            case rel => exact ⟨k + 1, _, _, _, _, _, _, _, _, _, by omega, by omega, by go_num, rfl, rfl, rfl, HA.out, HT.out⟩
            case measure => simp [intOf] <;> omega
          · have dq : ((q : Int) == 0) = false := by simp; omega
            have dxz : (x == 0) = false := by simp; omega
            go_wp2_with fail
            refine (sum_at HA.out.obj HT.out HX0.out).mono ?_
            rintro e w5 ⟨rfl, hb5⟩
            replace HA := Lib.hid (HA.out.keep hb5)
            clear hb5
            go_wp2_with fail
            refine (copen_at HA.out.obj HQ.out).mono ?_
            rintro e w6 ⟨rfl, rfl⟩
            go_wp2_with fail
            refine (copen_at HA.out.obj HQ.out).mono ?_
            rintro e w6 ⟨rfl, rfl⟩
            go_wp2
            go_roundw
            case rel => exact ⟨k + 1, _, _, _, _, _, _, _, _, _, by omega, by omega, by go_num, rfl, rfl, rfl, HA.out, HT.out⟩
            case measure => simp [intOf] <;> omega
        · obtain ⟨y, hyy⟩ : ∃ y, aerr (cut40 a.nm).size a.am a.fr a.ex = y := ⟨_, rfl⟩
          rw [hyy] at hy
          have dy : (y == 0) = false := by simp [hy]
          have HY := Lib.hid hyy
          clear hyy
          go_wp2_with fail
          refine (add_bad HY.out hy).mono ?_
          rintro e w4 ⟨rfl, rfl⟩
          replace HT := Lib.hid HT.out.more
          obtain ⟨x, hx⟩ : ∃ x, Cm.psum A S 0 n = x := ⟨_, rfl⟩
          have hxe : x = ad - pa - ol := by have h1 := HT.out.ad; have h2 := HT.out.pa; have h3 := HT.out.ol; rw [hx] at h1; omega
          have dx : (x != ad - pa - ol) = false := by simp [hxe]
          obtain ⟨⟨e0, e1⟩, ⟨e2, e3⟩, e4, e5⟩ := HT.out.bd (by omega)
          obtain ⟨q, hq⟩ : ∃ q, cnt S n = q := ⟨_, rfl⟩
          have hz := Cm.cnt_zero (S := S) HT.out.am
          rw [hq, hx] at hz
          have hx0 : 0 ≤ x := by omega
          have HX0 := Lib.hid hx
          have HQ := Lib.hid hq
          have hq6 : q ≤ 9000000 := by
            have : ∀ j, cnt S j ≤ j := fun j => by
              induction j with
              | zero => exact Nat.le_refl _
              | succ j ih => simp only [cnt]; split <;> omega
            have h1 := this n
            rw [hq] at h1
            omega
          clear hx hq hxe
          rcases hz with ⟨hq0, hxz⟩ | ⟨hq0, hxz⟩
          · subst hq0 hxz
            go_wp2_with fail
            refine (sum_at HA.out.obj HT.out HX0.out).mono ?_
            rintro e w5 ⟨rfl, hb5⟩
            replace HA := Lib.hid (HA.out.keep hb5)
            clear hb5
            go_wp2_with fail
            refine (copen_at HA.out.obj HQ.out).mono ?_
            rintro e w6 ⟨rfl, rfl⟩
            go_wp2_with fail
            refine (copen_at HA.out.obj HQ.out).mono ?_
            rintro e w6 ⟨rfl, rfl⟩
            go_wp2
            go_roundw
            case rel => exact ⟨k + 1, _, _, _, _, _, _, _, _, _, by omega, by omega, by go_num, rfl, rfl, rfl, HA.out, HT.out⟩
            case measure => simp [intOf] <;> omega
          · have dq : ((q : Int) == 0) = false := by simp; omega
            have dxz : (x == 0) = false := by simp; omega
            go_wp2_with fail
            refine (sum_at HA.out.obj HT.out HX0.out).mono ?_
            rintro e w5 ⟨rfl, hb5⟩
            replace HA := Lib.hid (HA.out.keep hb5)
            clear hb5
            go_wp2_with fail
            refine (copen_at HA.out.obj HQ.out).mono ?_
            rintro e w6 ⟨rfl, rfl⟩
            go_wp2_with fail
            refine (copen_at HA.out.obj HQ.out).mono ?_
            rintro e w6 ⟨rfl, rfl⟩
            go_wp2
            go_roundw
            case rel => exact ⟨k + 1, _, _, _, _, _, _, _, _, _, by omega, by omega, by go_num, rfl, rfl, rfl, HA.out, HT.out⟩
            case measure => simp [intOf] <;> omega
      · have d0 : (a.k == 0) = false := by simp [k0]
        by_cases k1 : a.k = 1
        · have d1 : (a.k == 1) = true := by simp [k1]
          clear k0 k1
          go_wp2_with fail
          refine (check_any HA.out.obj (cut40_size _)).mono ?_
          rintro e w4 ⟨rfl, hb4⟩
          replace HA := Lib.hid (HA.out.keep hb4)
          replace HT := Lib.hid HT.out.more
          clear hb4
          obtain ⟨x, hx⟩ : ∃ x, Cm.psum A S 0 n = x := ⟨_, rfl⟩
          have hxe : x = ad - pa - ol := by have h1 := HT.out.ad; have h2 := HT.out.pa; have h3 := HT.out.ol; rw [hx] at h1; omega
          have dx : (x != ad - pa - ol) = false := by simp [hxe]
          obtain ⟨⟨e0, e1⟩, ⟨e2, e3⟩, e4, e5⟩ := HT.out.bd (by omega)
          obtain ⟨q, hq⟩ : ∃ q, cnt S n = q := ⟨_, rfl⟩
          have hz := Cm.cnt_zero (S := S) HT.out.am
          rw [hq, hx] at hz
          have hx0 : 0 ≤ x := by omega
          have HX0 := Lib.hid hx
          have HQ := Lib.hid hq
          have hq6 : q ≤ 9000000 := by
            have : ∀ j, cnt S j ≤ j := fun j => by
              induction j with
              | zero => exact Nat.le_refl _
              | succ j ih => simp only [cnt]; split <;> omega
            have h1 := this n
            rw [hq] at h1
            omega
          clear hx hq hxe
          rcases hz with ⟨hq0, hxz⟩ | ⟨hq0, hxz⟩
          · subst hq0 hxz
            go_wp2_with fail
            refine (sum_at HA.out.obj HT.out HX0.out).mono ?_
            rintro e w5 ⟨rfl, hb5⟩
            replace HA := Lib.hid (HA.out.keep hb5)
            clear hb5
            go_wp2_with fail
            refine (copen_at HA.out.obj HQ.out).mono ?_
            rintro e w6 ⟨rfl, rfl⟩
            go_wp2_with fail
            refine (copen_at HA.out.obj HQ.out).mono ?_
            rintro e w6 ⟨rfl, rfl⟩
            go_wp2
            go_roundw
            case rel => exact ⟨k + 1, _, _, _, _, _, _, _, _, _, by omega, by omega, by go_num, rfl, rfl, rfl, HA.out, HT.out⟩
            case measure => simp [intOf] <;> omega
          · have dq : ((q : Int) == 0) = false := by simp; omega
            have dxz : (x == 0) = false := by simp; omega
            go_wp2_with fail
            refine (sum_at HA.out.obj HT.out HX0.out).mono ?_
            rintro e w5 ⟨rfl, hb5⟩
            replace HA := Lib.hid (HA.out.keep hb5)
            clear hb5
            go_wp2_with fail
            refine (copen_at HA.out.obj HQ.out).mono ?_
            rintro e w6 ⟨rfl, rfl⟩
            go_wp2_with fail
            refine (copen_at HA.out.obj HQ.out).mono ?_
            rintro e w6 ⟨rfl, rfl⟩
            go_wp2
            go_roundw
            case rel => exact ⟨k + 1, _, _, _, _, _, _, _, _, _, by omega, by omega, by go_num, rfl, rfl, rfl, HA.out, HT.out⟩
            case measure => simp [intOf] <;> omega
        · have d1 : (a.k == 1) = false := by simp [k1]
          by_cases k2 : a.k = 2
          · have d2 : (a.k == 2) = true := by simp [k2]
            clear k0 k1 k2
            obtain ⟨u, hu⟩ : ∃ u, Cm.ckV A F E S a.at_ a.mo (idx N (cut40 a.nm) n) = u := ⟨_, rfl⟩
            obtain ⟨z, hz⟩ : ∃ z, Cm.ckE A F E S a.at_ a.mo (idx N (cut40 a.nm) n) = z := ⟨_, rfl⟩
            have HT2 := HT.out.claim (F := F) (E := E) (N := N) (s := cut40 a.nm) (at_ := a.at_) (most := a.mo)
            rw [hu] at HT2
            have HU := Lib.hid hu
            have HZ := Lib.hid hz
            obtain ⟨S', hS'⟩ : ∃ S', clS A F E S a.at_ a.mo (idx N (cut40 a.nm) n) = S' := ⟨_, rfl⟩
            rw [hS'] at HT2
            have HS' := Lib.hid hS'
            clear hu hz hS'
            go_wp2_with fail
            refine (claim_at HA.out.obj HA.out.size (cut40_size _) HU.out HZ.out).mono ?_
            rintro e w4 hk4
            obtain rfl := hk4.1
            have HA2 := HA.out.left hk4
            rw [HS'.out] at HA2
            replace HA := Lib.hid HA2
            replace HT := Lib.hid HT2
            clear hk4 HA2 HT2
            obtain ⟨x, hx⟩ : ∃ x, Cm.psum A S' 0 n = x := ⟨_, rfl⟩
            have hxe : x = ad - (pa + u) - ol := by have h1 := HT.out.ad; have h2 := HT.out.pa; have h3 := HT.out.ol; rw [hx] at h1; omega
            have dx : (x != ad - (pa + u) - ol) = false := by simp [hxe]
            obtain ⟨⟨e0, e1⟩, ⟨e2, e3⟩, e4, e5⟩ := HT.out.bd (by omega)
            obtain ⟨q, hq⟩ : ∃ q, cnt S' n = q := ⟨_, rfl⟩
            have hz := Cm.cnt_zero (S := S') HT.out.am
            rw [hq, hx] at hz
            have hx0 : 0 ≤ x := by omega
            have HX0 := Lib.hid hx
            have HQ := Lib.hid hq
            have hq6 : q ≤ 9000000 := by
              have : ∀ j, cnt S' j ≤ j := fun j => by
                induction j with
                | zero => exact Nat.le_refl _
                | succ j ih => simp only [cnt]; split <;> omega
              have h1 := this n
              rw [hq] at h1
              omega
            clear hx hq hxe
            rcases hz with ⟨hq0, hxz⟩ | ⟨hq0, hxz⟩
            · subst hq0 hxz
              go_wp2_with fail
              refine (sum_at HA.out.obj HT.out HX0.out).mono ?_
              rintro e w5 ⟨rfl, hb5⟩
              replace HA := Lib.hid (HA.out.keep hb5)
              clear hb5
              go_wp2_with fail
              refine (copen_at HA.out.obj HQ.out).mono ?_
              rintro e w6 ⟨rfl, rfl⟩
              go_wp2_with fail
              refine (copen_at HA.out.obj HQ.out).mono ?_
              rintro e w6 ⟨rfl, rfl⟩
              go_wp2
              go_roundw
              case rel => exact ⟨k + 1, _, _, _, _, _, _, _, _, _, by omega, by omega, by go_num, rfl, rfl, rfl, HA.out, HT.out⟩
              case measure => simp [intOf] <;> omega
            · have dq : ((q : Int) == 0) = false := by simp; omega
              have dxz : (x == 0) = false := by simp; omega
              go_wp2_with fail
              refine (sum_at HA.out.obj HT.out HX0.out).mono ?_
              rintro e w5 ⟨rfl, hb5⟩
              replace HA := Lib.hid (HA.out.keep hb5)
              clear hb5
              go_wp2_with fail
              refine (copen_at HA.out.obj HQ.out).mono ?_
              rintro e w6 ⟨rfl, rfl⟩
              go_wp2_with fail
              refine (copen_at HA.out.obj HQ.out).mono ?_
              rintro e w6 ⟨rfl, rfl⟩
              go_wp2
              go_roundw
              case rel => exact ⟨k + 1, _, _, _, _, _, _, _, _, _, by omega, by omega, by go_num, rfl, rfl, rfl, HA.out, HT.out⟩
              case measure => simp [intOf] <;> omega
          · have d2 : (a.k == 2) = false := by simp [k2]
            clear k0 k1 k2
            obtain ⟨u, hu⟩ : ∃ u, Cm.osum A E S a.at_ n = u := ⟨_, rfl⟩
            have HT2 := HT.out.expire (E := E) (at_ := a.at_)
            rw [hu] at HT2
            have HU := Lib.hid hu
            clear hu
            go_wp2_with fail
            refine (expire_at HA.out.obj HA.out.size HU.out).mono ?_
            rintro e w4 hk4
            obtain rfl := hk4.1
            replace HA := Lib.hid (HA.out.left hk4)
            replace HT := Lib.hid HT2
            clear hk4 HT2
            obtain ⟨x, hx⟩ : ∃ x, Cm.psum A (Cm.oldS E S a.at_ n) 0 n = x := ⟨_, rfl⟩
            have hxe : x = ad - pa - (ol + u) := by have h1 := HT.out.ad; have h2 := HT.out.pa; have h3 := HT.out.ol; rw [hx] at h1; omega
            have dx : (x != ad - pa - (ol + u)) = false := by simp [hxe]
            obtain ⟨⟨e0, e1⟩, ⟨e2, e3⟩, e4, e5⟩ := HT.out.bd (by omega)
            obtain ⟨q, hq⟩ : ∃ q, cnt (Cm.oldS E S a.at_ n) n = q := ⟨_, rfl⟩
            have hz := Cm.cnt_zero (S := (Cm.oldS E S a.at_ n)) HT.out.am
            rw [hq, hx] at hz
            have hx0 : 0 ≤ x := by omega
            have HX0 := Lib.hid hx
            have HQ := Lib.hid hq
            have hq6 : q ≤ 9000000 := by
              have : ∀ j, cnt (Cm.oldS E S a.at_ n) j ≤ j := fun j => by
                induction j with
                | zero => exact Nat.le_refl _
                | succ j ih => simp only [cnt]; split <;> omega
              have h1 := this n
              rw [hq] at h1
              omega
            clear hx hq hxe
            rcases hz with ⟨hq0, hxz⟩ | ⟨hq0, hxz⟩
            · subst hq0 hxz
              go_wp2_with fail
              refine (sum_at HA.out.obj HT.out HX0.out).mono ?_
              rintro e w5 ⟨rfl, hb5⟩
              replace HA := Lib.hid (HA.out.keep hb5)
              clear hb5
              go_wp2_with fail
              refine (copen_at HA.out.obj HQ.out).mono ?_
              rintro e w6 ⟨rfl, rfl⟩
              go_wp2_with fail
              refine (copen_at HA.out.obj HQ.out).mono ?_
              rintro e w6 ⟨rfl, rfl⟩
              go_wp2
              go_roundw
              case rel => exact ⟨k + 1, _, _, _, _, _, _, _, _, _, by omega, by omega, by go_num, rfl, rfl, rfl, HA.out, HT.out⟩
              case measure => simp [intOf] <;> omega
            · have dq : ((q : Int) == 0) = false := by simp; omega
              have dxz : (x == 0) = false := by simp; omega
              go_wp2_with fail
              refine (sum_at HA.out.obj HT.out HX0.out).mono ?_
              rintro e w5 ⟨rfl, hb5⟩
              replace HA := Lib.hid (HA.out.keep hb5)
              clear hb5
              go_wp2_with fail
              refine (copen_at HA.out.obj HQ.out).mono ?_
              rintro e w6 ⟨rfl, rfl⟩
              go_wp2_with fail
              refine (copen_at HA.out.obj HQ.out).mono ?_
              rintro e w6 ⟨rfl, rfl⟩
              go_wp2
              go_roundw
              case rel => exact ⟨k + 1, _, _, _, _, _, _, _, _, _, by omega, by omega, by go_num, rfl, rfl, rfl, HA.out, HT.out⟩
              case measure => simp [intOf] <;> omega
    · have hend : ¬ (k < m) ∨ (k < m ∧ ¬ (k < 60)) := by omega
      clear hkn
      rcases hend with hend | ⟨hend, h60⟩
      all_goals
        go_wp2_with fail
        refine (works44 _).mono ?_
        rintro e w9 ⟨rfl, hb9⟩
        have HB := Lib.hid (Below.on HA.out.below hb9)
        clear hb9
        go_wp2
        go_ret
        exact ⟨rfl, HB.out⟩
end Go.Proofs.Ytpalmlcepppifaa
