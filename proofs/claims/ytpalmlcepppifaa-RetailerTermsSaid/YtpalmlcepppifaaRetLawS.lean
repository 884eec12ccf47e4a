/- The walk of the law RetailerSettles. -/
import Derived.Test.YtpalmlcepppifaaRetSit
set_option linter.unusedVariables false
namespace Go.Proofs.Ytpalmlcepppifaa
open Go.RowKit

theorem set_zero {t : Rt.Tm} (ht : Rt.okT t) : setC t Rt.zero = #[.int .i64 0, .int .i64 0, .int .i64 0, .int .i64 0, .int .i64 0] := by
  obtain ⟨_, _, _, ⟨v0, v1⟩, _⟩ := ht
  have hp : Rt.pos Rt.zero = 0 := rfl
  have ho : Rt.over t Rt.zero = 0 := by unfold Rt.over; rw [hp]; split <;> omega
  have hc : Rt.com t Rt.zero = 0 := by
    unfold Rt.com; rw [hp, ho]; simp [Rt.zero]
  have hd : Rt.due t Rt.zero = 0 := by unfold Rt.due; rw [hc]; rfl
  unfold setC; rw [hc, hd]; rfl
theorem set_bal {t : Rt.Tm} {x : Rt.St} (ht : Rt.okT t) (hx : Rt.okS x) : ∃ c d : Int, setC t x = #[.int .i64 x.s, .int .i64 x.r, .int .i64 x.c, .int .i64 c, .int .i64 d] ∧ 0 ≤ c ∧ c ≤ 3000000000000 ∧ x.s = x.r + x.c + c + d := by
  have h := Rt.com_bd ht hx
  exact ⟨_, _, rfl, h.1, h.2, by unfold Rt.due; omega⟩

/-- What was accepted is what was told and what is open. -/
structure Bal (k : Nat) (x : Rt.St) (gs gr gc ts tr tc : Int) : Prop where
  es : gs = ts + x.s
  er : gr = tr + x.r
  ec : gc = tc + x.c
  s0 : 0 ≤ ts
  r0 : 0 ≤ tr
  c0 : 0 ≤ tc
  s1 : gs ≤ k * 1000000000000
  r1 : gr ≤ k * 1000000000000
  c1 : gc ≤ k * 1000000000000
/-- The law's account and its two sums. -/
structure Sett (W w : World) (g : Nat) (t : Rt.Tm) (x : Rt.St) (G T : Nat) (gs gr gc ts tr tc : Int) : Prop where
  sit : Sit W w g t x
  giv : Blk w G 44 #[.int .i64 gs, .int .i64 gr, .int .i64 gc, .int .i64 0, .int .i64 0]
  tol : Blk w T 44 #[.int .i64 ts, .int .i64 tr, .int .i64 tc, .int .i64 0, .int .i64 0]
  hG : W.heap.size < G
  hT : W.heap.size < T
  gG : g ≠ G
  gT : g ≠ T
  GT : G ≠ T
theorem Sett.keep {W w w1 : World} {g G T : Nat} {t : Rt.Tm} {x : Rt.St} {gs gr gc ts tr tc : Int} (h : Sett W w g t x G T gs gr gc ts tr tc) (hb : Below w.heap.size w w1) : Sett W w1 g t x G T gs gr gc ts tr tc :=
  ⟨h.sit.keep hb, h.giv.keep hb, h.tol.keep hb, h.hG, h.hT, h.gG, h.gT, h.GT⟩
theorem Sett.alloc {W w : World} {g G T : Nat} {t : Rt.Tm} {x : Rt.St} {gs gr gc ts tr tc : Int} (h : Sett W w g t x G T gs gr gc ts tr tc) (o : Go.Obj) : Sett W (w.alloc o) g t x G T gs gr gc ts tr tc :=
  h.keep ((Below.refl _ _).alloc (Nat.le_refl _) o)
theorem Sett.told {W w w1 : World} {g G T : Nat} {t : Rt.Tm} {x x' : Rt.St} {gs gr gc ts tr tc : Int} (h : Sett W w g t x G T gs gr gc ts tr tc) (hx : Rt.okS x') (ho : Blk w1 g 85 (objC t x')) (hb : w.grownBy w1 (some g)) : Sett W w1 g t x' G T gs gr gc ts tr tc :=
  ⟨h.sit.told hx ho hb, h.giv.grown hb (by have := h.gG; simp; omega), h.tol.grown hb (by have := h.gT; simp; omega), h.hG, h.hT, h.gG, h.gT, h.GT⟩
theorem Sit.set_ {W w : World} {g b : Nat} {t : Rt.Tm} {x : Rt.St} (h : Sit W w g t x) (hb : W.heap.size < b) (hg : g ≠ b) (i : Nat) (u : Value) : Sit W (w.setCell ⟨b, i, none⟩ u) g t x :=
  ⟨h.obj.other hg i u, h.okx, h.box.other (by omega) i u, h.below.setCell (p := ⟨b, i, none⟩) (Nat.le_of_lt hb) u, h.hg⟩
theorem Sett.setG {W w : World} {g G T : Nat} {t : Rt.Tm} {x : Rt.St} {gs gr gc ts tr tc : Int} (h : Sett W w g t x G T gs gr gc ts tr tc) (i : Nat) (u : Value) {gs' gr' gc' : Int} (e : (#[.int .i64 gs, .int .i64 gr, .int .i64 gc, .int .i64 0, .int .i64 0] : Array Value).setIfInBounds i u = #[.int .i64 gs', .int .i64 gr', .int .i64 gc', .int .i64 0, .int .i64 0]) : Sett W (w.setCell ⟨G, i, none⟩ u) g t x G T gs' gr' gc' ts tr tc :=
  ⟨h.sit.set_ h.hG h.gG i u, by have := h.giv.set_ i u; rw [e] at this; exact this, h.tol.other (fun e => h.GT e.symm) i u, h.hG, h.hT, h.gG, h.gT, h.GT⟩
theorem Sett.setT {W w : World} {g G T : Nat} {t : Rt.Tm} {x : Rt.St} {gs gr gc ts tr tc : Int} (h : Sett W w g t x G T gs gr gc ts tr tc) (i : Nat) (u : Value) {ts' tr' tc' : Int} (e : (#[.int .i64 ts, .int .i64 tr, .int .i64 tc, .int .i64 0, .int .i64 0] : Array Value).setIfInBounds i u = #[.int .i64 ts', .int .i64 tr', .int .i64 tc', .int .i64 0, .int .i64 0]) : Sett W (w.setCell ⟨T, i, none⟩ u) g t x G T gs gr gc ts' tr' tc' :=
  ⟨h.sit.set_ h.hT h.gT i u, h.giv.other h.GT i u, by have := h.tol.set_ i u; rw [e] at this; exact this, h.hG, h.hT, h.gG, h.gT, h.GT⟩

set_option maxHeartbeats 4000000 in
set_option maxRecDepth 100000 in
theorem retailerSettles_walk (W : World) {t : Rt.Tm} (_ : t = t) {A : Option Addr} {n c : Nat} {K M : Nat → Int} (hn : n ≤ c) (hc : c ≤ maxLen) (h : Cells W A (n * 2) (Two K M)) (hw : ∀ i, i < n → (Lit.int .i64 (K i)).wf = true ∧ (Lit.int .i64 (M i)).wf = true) :
    Calls Try.prog 7 #[.agg (termsC t), .slice A n c] W fun e w' => e = .returned (.bool true) ∧ Below W.heap.size W w' := by
  unfold maxLen at hc
  clear hw
  unfold termsC
  by_cases ht : Rt.okT t
  · have HT := Lib.hid ht
    clear ht
    by_cases h80 : 80 < n
    · go_enter Try.func7, Try.ntmps7
      go_wp2_with fail
      refine (new_sit HT.out).mono ?_
      rintro e w1 ⟨g, rfl, hs⟩
      have HS := Lib.hid hs
      clear hs
      go_wp2_with fail
      refine (awake49 _).mono ?_
      rintro e w2 ⟨rfl, hb2⟩
      have HB := Lib.hid (Below.on HS.out.below hb2)
      clear hb2
      go_wp2
      go_ret
      exact ⟨rfl, HB.out⟩
    · go_enter Try.func7, Try.ntmps7
      go_wp2_with fail
      refine (new_sit HT.out).mono ?_
      rintro e w1 ⟨g, rfl, hs⟩
      have hgz : g < w1.heap.size := hs.obj.lt
      have hWz := hs.below.size
      have hgW := hs.hg
      have hS : Sett W ((w1.alloc (.cells #[.int .i64 0, .int .i64 0, .int .i64 0, .int .i64 0, .int .i64 0] 44)).alloc (.cells #[.int .i64 0, .int .i64 0, .int .i64 0, .int .i64 0, .int .i64 0] 44)) g t Rt.zero w1.heap.size (w1.heap.size + 1) 0 0 0 0 0 0 :=
        ⟨(hs.alloc _).alloc _, (Blk.new w1 _ _).alloc _, Blk.new_ (by simp), by omega, by omega, by omega, by omega, by omega⟩
      obtain ⟨G, hG⟩ : ∃ G, G = w1.heap.size := ⟨_, rfl⟩
      rw [← hG] at hS
      have HS := Lib.hid hS
      have HG := Lib.hid hG
      clear hs hG hS hgz hWz
      go_wp2_with fail
      rw [← HG.out]
      go_loopw [9] (fun i wr => ∃ (k : Nat) (x : Rt.St) (gs gr gc ts tr tc : Int), k ≤ n + 1 ∧ i = .int .i64 k ∧ Sett W wr g t x G (G + 1) gs gr gc ts tr tc ∧ Bal k x gs gr gc ts tr tc ∧ (k = n + 1 → x = Rt.zero)) (fun i _ => n + 1 - (intOf i).toNat)
      case atStart => exact ⟨0, Rt.zero, 0, 0, 0, 0, 0, 0, by omega, rfl, HS.out, ⟨rfl, rfl, rfl, by omega, by omega, by omega, by simp, by simp, by simp⟩, fun _ => rfl⟩
      case round =>
        clear HS HG
        obtain ⟨k, x, gs, gr, gc, ts, tr, tc, hk, rfl, hs, hbal, hend⟩ := hrel
        have HS := Lib.hid hs
        have HBAL := Lib.hid hbal
        have HEND := Lib.hid hend
        clear hs hbal hend
        by_cases hkn : k < n
        · obtain ⟨b, off, rfl, hlt, hc1, hc2⟩ := (h.below HS.out.sit.below).two hkn
          obtain ⟨y, hy⟩ : ∃ y, Rt.err t x (K k) (M k) = y := ⟨_, rfl⟩
          by_cases hy0 : y = 0
          · subst hy0
            have HY := Lib.hid hy
            clear hy
            by_cases k0 : K k = 0
            · have hy2 : Rt.sErr t x (M k) = 0 := by have := HY.out; unfold Rt.err at this; rw [if_pos k0] at this; exact this
              obtain ⟨a0, a1, a2⟩ := Rt.room_ok (Rt.sErr_ok hy2).1
              have HN := Lib.hid (show Rt.nxt t x (K k) (M k) = ⟨x.s + M k, x.r, x.c⟩ by unfold Rt.nxt; rw [if_pos k0, if_pos hy2])
              have HO := Lib.hid (out_zero (t := t) (x := x) (.inl k0))
              have d0 : (K k == 0) = true := by simp [k0]
              clear k0 hy2
              have HX2 := Lib.hid (Rt.okS_nxt (t := t) (k := K k) (a := M k) HS.out.sit.okx)
              rw [HN.out] at HX2
              have hbd := HBAL.out
              obtain ⟨es, er, ec, s0, r0, c0, s1, r1, c1⟩ := hbd
              obtain ⟨⟨x0, x1⟩, ⟨x2, x3⟩, ⟨x4, x5⟩⟩ := HS.out.sit.okx
              have u0 : 0 ≤ gs := by omega
              have u1 : 0 ≤ gr := by omega
              have u2 : 0 ≤ gc := by omega
              have u3 : gs ≤ 81000000000000 := by omega
              have u4 : gr ≤ 81000000000000 := by omega
              have u5 : gc ≤ 81000000000000 := by omega
              have v3 : ts ≤ 81000000000000 := by omega
              have v4 : tr ≤ 81000000000000 := by omega
              have v5 : tc ≤ 81000000000000 := by omega

              clear es er ec s1 r1 c1
              have HD := Lib.hid (Blk.new wr 51 #[.int .i64 (K k), .int .i64 (M k)])
              obtain ⟨D, hD⟩ : ∃ D, D = wr.heap.size := ⟨_, rfl⟩
              rw [← hD] at HD
              have hGD : G < D := by rw [hD]; exact HS.out.giv.lt
              have hTD : G + 1 < D := by rw [hD]; exact HS.out.tol.lt
              have hgD : g < D := by rw [hD]; exact HS.out.sit.obj.lt
              have HDe := Lib.hid hD
              clear hD
              go_wp2_with fail
              rw [← HDe.out]
              refine (act_at (x' := ⟨x.s + M k, x.r, x.c⟩) (y := 0) (V := #[.int .i64 0, .int .i64 0, .int .i64 0, .int .i64 0, .int .i64 0]) (HS.out.alloc _).sit.obj HT.out HS.out.sit.okx HN.out HY.out HO.out).mono ?_
              rintro e w3 ⟨rfl, ho3, hb3⟩
              have HS3 := Lib.hid ((HS.out.alloc _).told HX2.out ho3 hb3)
              have HD3 := Lib.hid (HD.out.grown hb3 (by simp; omega))
              have hG3 := HS3.out.giv.lt
              have hT3 := HS3.out.tol.lt
              have hD3 := HD3.out.lt
              obtain ⟨g0, g1, g2, g3, g4, gf0, gf1, gf2, _⟩ := set_at HS3.out.giv
              obtain ⟨t0, t1, t2, t3, t4, tf0, tf1, tf2, _⟩ := set_at HS3.out.tol
              have e0 := HD3.out.cell 0
              have e1 := HD3.out.cell 1
              simp at e0 e1
              have nGT : G ≠ G + 1 := by omega
              have nDG : D ≠ G := by omega
              have nDT : D ≠ G + 1 := by omega
              clear ho3 hb3 HS HD HD3
              go_wp2
              go_roundw
              case rel => exact ⟨k + 1, _, gs + M k, gr, gc, ts, tr, tc, by omega, by go_num, (HS3.out.setG 0 _ rfl).alloc _, ⟨by have := HBAL.out.es; (try simp only); omega, by have := HBAL.out.er; (try simp only); omega, by have := HBAL.out.ec; (try simp only); omega, HBAL.out.s0, HBAL.out.r0, HBAL.out.c0, by have := HBAL.out.s1; omega, by have := HBAL.out.r1; omega, by have := HBAL.out.c1; omega⟩, fun _ => by omega⟩
              case measure => simp [intOf] <;> omega
            · by_cases k1 : K k = 1
              · have hy2 : Rt.room x.r (M k) = 0 := by have := HY.out; unfold Rt.err at this; rw [if_neg k0, if_pos k1] at this; exact this
                obtain ⟨a0, a1, a2⟩ := Rt.room_ok hy2
                have HN := Lib.hid (show Rt.nxt t x (K k) (M k) = ⟨x.s, x.r + M k, x.c⟩ by unfold Rt.nxt; rw [if_neg k0, if_pos k1, if_pos hy2])
                have HO := Lib.hid (out_zero (t := t) (x := x) (.inr (.inl k1)))
                have d0 : (K k == 0) = false := by simp [k0]
                have d1 : (K k == 1) = true := by simp [k1]
                clear k0 k1 hy2
                have HX2 := Lib.hid (Rt.okS_nxt (t := t) (k := K k) (a := M k) HS.out.sit.okx)
                rw [HN.out] at HX2
                have hbd := HBAL.out
                obtain ⟨es, er, ec, s0, r0, c0, s1, r1, c1⟩ := hbd
                obtain ⟨⟨x0, x1⟩, ⟨x2, x3⟩, ⟨x4, x5⟩⟩ := HS.out.sit.okx
                have u0 : 0 ≤ gs := by omega
                have u1 : 0 ≤ gr := by omega
                have u2 : 0 ≤ gc := by omega
                have u3 : gs ≤ 81000000000000 := by omega
                have u4 : gr ≤ 81000000000000 := by omega
                have u5 : gc ≤ 81000000000000 := by omega
                have v3 : ts ≤ 81000000000000 := by omega
                have v4 : tr ≤ 81000000000000 := by omega
                have v5 : tc ≤ 81000000000000 := by omega

                clear es er ec s1 r1 c1
                have HD := Lib.hid (Blk.new wr 51 #[.int .i64 (K k), .int .i64 (M k)])
                obtain ⟨D, hD⟩ : ∃ D, D = wr.heap.size := ⟨_, rfl⟩
                rw [← hD] at HD
                have hGD : G < D := by rw [hD]; exact HS.out.giv.lt
                have hTD : G + 1 < D := by rw [hD]; exact HS.out.tol.lt
                have hgD : g < D := by rw [hD]; exact HS.out.sit.obj.lt
                have HDe := Lib.hid hD
                clear hD
                go_wp2_with fail
                rw [← HDe.out]
                refine (act_at (x' := ⟨x.s, x.r + M k, x.c⟩) (y := 0) (V := #[.int .i64 0, .int .i64 0, .int .i64 0, .int .i64 0, .int .i64 0]) (HS.out.alloc _).sit.obj HT.out HS.out.sit.okx HN.out HY.out HO.out).mono ?_
                rintro e w3 ⟨rfl, ho3, hb3⟩
                have HS3 := Lib.hid ((HS.out.alloc _).told HX2.out ho3 hb3)
                have HD3 := Lib.hid (HD.out.grown hb3 (by simp; omega))
                have hG3 := HS3.out.giv.lt
                have hT3 := HS3.out.tol.lt
                have hD3 := HD3.out.lt
                obtain ⟨g0, g1, g2, g3, g4, gf0, gf1, gf2, _⟩ := set_at HS3.out.giv
                obtain ⟨t0, t1, t2, t3, t4, tf0, tf1, tf2, _⟩ := set_at HS3.out.tol
                have e0 := HD3.out.cell 0
                have e1 := HD3.out.cell 1
                simp at e0 e1
                have nGT : G ≠ G + 1 := by omega
                have nDG : D ≠ G := by omega
                have nDT : D ≠ G + 1 := by omega
                clear ho3 hb3 HS HD HD3
                go_wp2
                go_roundw
                case rel => exact ⟨k + 1, _, gs, gr + M k, gc, ts, tr, tc, by omega, by go_num, (HS3.out.setG 1 _ rfl).alloc _, ⟨by have := HBAL.out.es; (try simp only); omega, by have := HBAL.out.er; (try simp only); omega, by have := HBAL.out.ec; (try simp only); omega, HBAL.out.s0, HBAL.out.r0, HBAL.out.c0, by have := HBAL.out.s1; omega, by have := HBAL.out.r1; omega, by have := HBAL.out.c1; omega⟩, fun _ => by omega⟩
                case measure => simp [intOf] <;> omega
              · by_cases k2 : K k = 2
                · have hy2 : Rt.room x.c (M k) = 0 := by have := HY.out; unfold Rt.err at this; rw [if_neg k0, if_neg k1, if_pos k2] at this; exact this
                  obtain ⟨a0, a1, a2⟩ := Rt.room_ok hy2
                  have HN := Lib.hid (show Rt.nxt t x (K k) (M k) = ⟨x.s, x.r, x.c + M k⟩ by unfold Rt.nxt; rw [if_neg k0, if_neg k1, if_pos k2, if_pos hy2])
                  have HO := Lib.hid (out_zero (t := t) (x := x) (.inr (.inr k2)))
                  have d0 : (K k == 0) = false := by simp [k0]
                  have d1 : (K k == 1) = false := by simp [k1]
                  have d2 : (K k == 2) = true := by simp [k2]
                  clear k0 k1 k2 hy2
                  have HX2 := Lib.hid (Rt.okS_nxt (t := t) (k := K k) (a := M k) HS.out.sit.okx)
                  rw [HN.out] at HX2
                  have hbd := HBAL.out
                  obtain ⟨es, er, ec, s0, r0, c0, s1, r1, c1⟩ := hbd
                  obtain ⟨⟨x0, x1⟩, ⟨x2, x3⟩, ⟨x4, x5⟩⟩ := HS.out.sit.okx
                  have u0 : 0 ≤ gs := by omega
                  have u1 : 0 ≤ gr := by omega
                  have u2 : 0 ≤ gc := by omega
                  have u3 : gs ≤ 81000000000000 := by omega
                  have u4 : gr ≤ 81000000000000 := by omega
                  have u5 : gc ≤ 81000000000000 := by omega
                  have v3 : ts ≤ 81000000000000 := by omega
                  have v4 : tr ≤ 81000000000000 := by omega
                  have v5 : tc ≤ 81000000000000 := by omega

                  clear es er ec s1 r1 c1
                  have HD := Lib.hid (Blk.new wr 51 #[.int .i64 (K k), .int .i64 (M k)])
                  obtain ⟨D, hD⟩ : ∃ D, D = wr.heap.size := ⟨_, rfl⟩
                  rw [← hD] at HD
                  have hGD : G < D := by rw [hD]; exact HS.out.giv.lt
                  have hTD : G + 1 < D := by rw [hD]; exact HS.out.tol.lt
                  have hgD : g < D := by rw [hD]; exact HS.out.sit.obj.lt
                  have HDe := Lib.hid hD
                  clear hD
                  go_wp2_with fail
                  rw [← HDe.out]
                  refine (act_at (x' := ⟨x.s, x.r, x.c + M k⟩) (y := 0) (V := #[.int .i64 0, .int .i64 0, .int .i64 0, .int .i64 0, .int .i64 0]) (HS.out.alloc _).sit.obj HT.out HS.out.sit.okx HN.out HY.out HO.out).mono ?_
                  rintro e w3 ⟨rfl, ho3, hb3⟩
                  have HS3 := Lib.hid ((HS.out.alloc _).told HX2.out ho3 hb3)
                  have HD3 := Lib.hid (HD.out.grown hb3 (by simp; omega))
                  have hG3 := HS3.out.giv.lt
                  have hT3 := HS3.out.tol.lt
                  have hD3 := HD3.out.lt
                  obtain ⟨g0, g1, g2, g3, g4, gf0, gf1, gf2, _⟩ := set_at HS3.out.giv
                  obtain ⟨t0, t1, t2, t3, t4, tf0, tf1, tf2, _⟩ := set_at HS3.out.tol
                  have e0 := HD3.out.cell 0
                  have e1 := HD3.out.cell 1
                  simp at e0 e1
                  have nGT : G ≠ G + 1 := by omega
                  have nDG : D ≠ G := by omega
                  have nDT : D ≠ G + 1 := by omega
                  clear ho3 hb3 HS HD HD3
                  go_wp2
                  go_roundw
                  case rel => exact ⟨k + 1, _, gs, gr, gc + M k, ts, tr, tc, by omega, by go_num, (HS3.out.setG 2 _ rfl).alloc _, ⟨by have := HBAL.out.es; (try simp only); omega, by have := HBAL.out.er; (try simp only); omega, by have := HBAL.out.ec; (try simp only); omega, HBAL.out.s0, HBAL.out.r0, HBAL.out.c0, by have := HBAL.out.s1; omega, by have := HBAL.out.r1; omega, by have := HBAL.out.c1; omega⟩, fun _ => by omega⟩
                  case measure => simp [intOf] <;> omega
                · by_cases k3 : K k = 3
                  · have HN := Lib.hid (show Rt.nxt t x (K k) (M k) = Rt.zero by unfold Rt.nxt; rw [if_neg k0, if_neg k1, if_neg k2, if_pos k3])
                    obtain ⟨a3, a4, hset, a30, a31, hbal⟩ := set_bal HT.out HS.out.sit.okx
                    have HO := Lib.hid ((out_set (t := t) (x := x) (k := K k) (by omega)).trans hset)
                    have d0 : (K k == 0) = false := by simp [k0]
                    have d1 : (K k == 1) = false := by simp [k1]
                    have d2 : (K k == 2) = false := by simp [k2]
                    have d3 : (K k == 3) = true := by simp [k3]
                    clear k0 k1 k2 k3 hset
                    have HX2 := Lib.hid (Rt.okS_nxt (t := t) (k := K k) (a := M k) HS.out.sit.okx)
                    rw [HN.out] at HX2
                    have hbd := HBAL.out
                    obtain ⟨es, er, ec, s0, r0, c0, s1, r1, c1⟩ := hbd
                    obtain ⟨⟨x0, x1⟩, ⟨x2, x3⟩, ⟨x4, x5⟩⟩ := HS.out.sit.okx
                    have u0 : 0 ≤ gs := by omega
                    have u1 : 0 ≤ gr := by omega
                    have u2 : 0 ≤ gc := by omega
                    have u3 : gs ≤ 81000000000000 := by omega
                    have u4 : gr ≤ 81000000000000 := by omega
                    have u5 : gc ≤ 81000000000000 := by omega
                    have v3 : ts ≤ 81000000000000 := by omega
                    have v4 : tr ≤ 81000000000000 := by omega
                    have v5 : tc ≤ 81000000000000 := by omega
                    have hneq : (x.s != x.r + x.c + a3 + a4) = false := by simp; omega
                    have a40 : -6000000000000 ≤ a4 := by omega
                    have a41 : a4 ≤ 6000000000000 := by omega
                    clear hbal
                    clear es er ec s1 r1 c1
                    have HD := Lib.hid (Blk.new wr 51 #[.int .i64 (K k), .int .i64 (M k)])
                    obtain ⟨D, hD⟩ : ∃ D, D = wr.heap.size := ⟨_, rfl⟩
                    rw [← hD] at HD
                    have hGD : G < D := by rw [hD]; exact HS.out.giv.lt
                    have hTD : G + 1 < D := by rw [hD]; exact HS.out.tol.lt
                    have hgD : g < D := by rw [hD]; exact HS.out.sit.obj.lt
                    have HDe := Lib.hid hD
                    clear hD
                    go_wp2_with fail
                    rw [← HDe.out]
                    refine (act_at (x' := Rt.zero) (y := 0) (V := #[.int .i64 x.s, .int .i64 x.r, .int .i64 x.c, .int .i64 a3, .int .i64 a4]) (HS.out.alloc _).sit.obj HT.out HS.out.sit.okx HN.out HY.out HO.out).mono ?_
                    rintro e w3 ⟨rfl, ho3, hb3⟩
                    have HS3 := Lib.hid ((HS.out.alloc _).told HX2.out ho3 hb3)
                    have HD3 := Lib.hid (HD.out.grown hb3 (by simp; omega))
                    have hG3 := HS3.out.giv.lt
                    have hT3 := HS3.out.tol.lt
                    have hD3 := HD3.out.lt
                    obtain ⟨g0, g1, g2, g3, g4, gf0, gf1, gf2, _⟩ := set_at HS3.out.giv
                    obtain ⟨t0, t1, t2, t3, t4, tf0, tf1, tf2, _⟩ := set_at HS3.out.tol
                    have e0 := HD3.out.cell 0
                    have e1 := HD3.out.cell 1
                    simp at e0 e1
                    have nGT : G ≠ G + 1 := by omega
                    have nDG : D ≠ G := by omega
                    have nDT : D ≠ G + 1 := by omega
                    clear ho3 hb3 HS HD HD3
                    go_wp2
                    go_roundw
                    case rel => exact ⟨k + 1, Rt.zero, gs, gr, gc, ts + x.s, tr + x.r, tc + x.c, by omega, by go_num, (((HS3.out.setT 0 _ rfl).setT 1 _ rfl).setT 2 _ rfl).alloc _, ⟨by have := HBAL.out.es; simp [Rt.zero]; omega, by have := HBAL.out.er; simp [Rt.zero]; omega, by have := HBAL.out.ec; simp [Rt.zero]; omega, by have := HBAL.out.s0; omega, by have := HBAL.out.r0; omega, by have := HBAL.out.c0; omega, by have := HBAL.out.s1; omega, by have := HBAL.out.r1; omega, by have := HBAL.out.c1; omega⟩, fun _ => rfl⟩
                    case measure => simp [intOf] <;> omega
                  · have HN := Lib.hid (show Rt.nxt t x (K k) (M k) = x by unfold Rt.nxt; rw [if_neg k0, if_neg k1, if_neg k2, if_neg k3])
                    obtain ⟨a3, a4, hset, a30, a31, hbal⟩ := set_bal HT.out HS.out.sit.okx
                    have HO := Lib.hid ((out_set (t := t) (x := x) (k := K k) (by omega)).trans hset)
                    have d0 : (K k == 0) = false := by simp [k0]
                    have d1 : (K k == 1) = false := by simp [k1]
                    have d2 : (K k == 2) = false := by simp [k2]
                    have d3 : (K k == 3) = false := by simp [k3]
                    clear k0 k1 k2 k3 hset
                    have HX2 := Lib.hid (Rt.okS_nxt (t := t) (k := K k) (a := M k) HS.out.sit.okx)
                    rw [HN.out] at HX2
                    have hbd := HBAL.out
                    obtain ⟨es, er, ec, s0, r0, c0, s1, r1, c1⟩ := hbd
                    obtain ⟨⟨x0, x1⟩, ⟨x2, x3⟩, ⟨x4, x5⟩⟩ := HS.out.sit.okx
                    have u0 : 0 ≤ gs := by omega
                    have u1 : 0 ≤ gr := by omega
                    have u2 : 0 ≤ gc := by omega
                    have u3 : gs ≤ 81000000000000 := by omega
                    have u4 : gr ≤ 81000000000000 := by omega
                    have u5 : gc ≤ 81000000000000 := by omega
                    have v3 : ts ≤ 81000000000000 := by omega
                    have v4 : tr ≤ 81000000000000 := by omega
                    have v5 : tc ≤ 81000000000000 := by omega
                    have hneq : (x.s != x.r + x.c + a3 + a4) = false := by simp; omega
                    have a40 : -6000000000000 ≤ a4 := by omega
                    have a41 : a4 ≤ 6000000000000 := by omega
                    clear hbal
                    clear es er ec s1 r1 c1
                    have HD := Lib.hid (Blk.new wr 51 #[.int .i64 (K k), .int .i64 (M k)])
                    obtain ⟨D, hD⟩ : ∃ D, D = wr.heap.size := ⟨_, rfl⟩
                    rw [← hD] at HD
                    have hGD : G < D := by rw [hD]; exact HS.out.giv.lt
                    have hTD : G + 1 < D := by rw [hD]; exact HS.out.tol.lt
                    have hgD : g < D := by rw [hD]; exact HS.out.sit.obj.lt
                    have HDe := Lib.hid hD
                    clear hD
                    go_wp2_with fail
                    rw [← HDe.out]
                    refine (act_at (x' := x) (y := 0) (V := #[.int .i64 x.s, .int .i64 x.r, .int .i64 x.c, .int .i64 a3, .int .i64 a4]) (HS.out.alloc _).sit.obj HT.out HS.out.sit.okx HN.out HY.out HO.out).mono ?_
                    rintro e w3 ⟨rfl, ho3, hb3⟩
                    have HS3 := Lib.hid ((HS.out.alloc _).told HX2.out ho3 hb3)
                    have HD3 := Lib.hid (HD.out.grown hb3 (by simp; omega))
                    have hG3 := HS3.out.giv.lt
                    have hT3 := HS3.out.tol.lt
                    have hD3 := HD3.out.lt
                    obtain ⟨g0, g1, g2, g3, g4, gf0, gf1, gf2, _⟩ := set_at HS3.out.giv
                    obtain ⟨t0, t1, t2, t3, t4, tf0, tf1, tf2, _⟩ := set_at HS3.out.tol
                    have e0 := HD3.out.cell 0
                    have e1 := HD3.out.cell 1
                    simp at e0 e1
                    have nGT : G ≠ G + 1 := by omega
                    have nDG : D ≠ G := by omega
                    have nDT : D ≠ G + 1 := by omega
                    clear ho3 hb3 HS HD HD3
                    go_wp2
                    go_roundw
                    case rel => exact ⟨k + 1, x, gs, gr, gc, ts, tr, tc, by omega, by go_num, HS3.out.alloc _, ⟨by have := HBAL.out.es; (try simp only); omega, by have := HBAL.out.er; (try simp only); omega, by have := HBAL.out.ec; (try simp only); omega, HBAL.out.s0, HBAL.out.r0, HBAL.out.c0, by have := HBAL.out.s1; omega, by have := HBAL.out.r1; omega, by have := HBAL.out.c1; omega⟩, fun _ => by omega⟩
                    case measure => simp [intOf] <;> omega
          · have hyn : Rt.err t x (K k) (M k) ≠ 0 := by rw [hy]; exact hy0
            obtain ⟨hn0, hkk⟩ := Rt.err_bad hyn
            have HY := Lib.hid hy
            have HN := Lib.hid hn0
            have HO := Lib.hid (out_zero (t := t) (x := x) hkk)
            have dy : (y == 0) = false := by simp [hy0]
            clear hn0 hkk hyn hy hy0
            have HX2 := Lib.hid (Rt.okS_nxt (t := t) (k := K k) (a := M k) HS.out.sit.okx)
            rw [HN.out] at HX2
            have hbd := HBAL.out
            obtain ⟨es, er, ec, s0, r0, c0, s1, r1, c1⟩ := hbd
            obtain ⟨⟨x0, x1⟩, ⟨x2, x3⟩, ⟨x4, x5⟩⟩ := HS.out.sit.okx
            have u0 : 0 ≤ gs := by omega
            have u1 : 0 ≤ gr := by omega
            have u2 : 0 ≤ gc := by omega
            have u3 : gs ≤ 81000000000000 := by omega
            have u4 : gr ≤ 81000000000000 := by omega
            have u5 : gc ≤ 81000000000000 := by omega
            have v3 : ts ≤ 81000000000000 := by omega
            have v4 : tr ≤ 81000000000000 := by omega
            have v5 : tc ≤ 81000000000000 := by omega

            clear es er ec s1 r1 c1
            have HD := Lib.hid (Blk.new wr 51 #[.int .i64 (K k), .int .i64 (M k)])
            obtain ⟨D, hD⟩ : ∃ D, D = wr.heap.size := ⟨_, rfl⟩
            rw [← hD] at HD
            have hGD : G < D := by rw [hD]; exact HS.out.giv.lt
            have hTD : G + 1 < D := by rw [hD]; exact HS.out.tol.lt
            have hgD : g < D := by rw [hD]; exact HS.out.sit.obj.lt
            have HDe := Lib.hid hD
            clear hD
            go_wp2_with fail
            rw [← HDe.out]
            refine (act_at (x' := x) (y := y) (V := #[.int .i64 0, .int .i64 0, .int .i64 0, .int .i64 0, .int .i64 0]) (HS.out.alloc _).sit.obj HT.out HS.out.sit.okx HN.out HY.out HO.out).mono ?_
            rintro e w3 ⟨rfl, ho3, hb3⟩
            have HS3 := Lib.hid ((HS.out.alloc _).told HX2.out ho3 hb3)
            have HD3 := Lib.hid (HD.out.grown hb3 (by simp; omega))
            have hG3 := HS3.out.giv.lt
            have hT3 := HS3.out.tol.lt
            have hD3 := HD3.out.lt
            obtain ⟨g0, g1, g2, g3, g4, gf0, gf1, gf2, _⟩ := set_at HS3.out.giv
            obtain ⟨t0, t1, t2, t3, t4, tf0, tf1, tf2, _⟩ := set_at HS3.out.tol
            have e0 := HD3.out.cell 0
            have e1 := HD3.out.cell 1
            simp at e0 e1
            have nGT : G ≠ G + 1 := by omega
            have nDG : D ≠ G := by omega
            have nDT : D ≠ G + 1 := by omega
            clear ho3 hb3 HS HD HD3
            go_wp2
            go_roundw
            case rel => exact ⟨k + 1, x, gs, gr, gc, ts, tr, tc, by omega, by go_num, HS3.out.alloc _, ⟨by have := HBAL.out.es; (try simp only); omega, by have := HBAL.out.er; (try simp only); omega, by have := HBAL.out.ec; (try simp only); omega, HBAL.out.s0, HBAL.out.r0, HBAL.out.c0, by have := HBAL.out.s1; omega, by have := HBAL.out.r1; omega, by have := HBAL.out.c1; omega⟩, fun _ => by omega⟩
            case measure => simp [intOf] <;> omega
        · by_cases hkn2 : k = n
          · subst hkn2
            have HY := Lib.hid (show Rt.err t x 3 0 = 0 from rfl)
            have HN := Lib.hid (show Rt.nxt t x 3 0 = Rt.zero from rfl)
            obtain ⟨a3, a4, hset, a30, a31, hbal⟩ := set_bal HT.out HS.out.sit.okx
            have HO := Lib.hid ((out_set (t := t) (x := x) (k := 3) (by omega)).trans hset)
            clear hset
            have HX2 := Lib.hid (Rt.okS_nxt (t := t) (k := 3) (a := 0) HS.out.sit.okx)
            rw [HN.out] at HX2
            have hbd := HBAL.out
            obtain ⟨es, er, ec, s0, r0, c0, s1, r1, c1⟩ := hbd
            obtain ⟨⟨x0, x1⟩, ⟨x2, x3⟩, ⟨x4, x5⟩⟩ := HS.out.sit.okx
            have u0 : 0 ≤ gs := by omega
            have u1 : 0 ≤ gr := by omega
            have u2 : 0 ≤ gc := by omega
            have u3 : gs ≤ 81000000000000 := by omega
            have u4 : gr ≤ 81000000000000 := by omega
            have u5 : gc ≤ 81000000000000 := by omega
            have v3 : ts ≤ 81000000000000 := by omega
            have v4 : tr ≤ 81000000000000 := by omega
            have v5 : tc ≤ 81000000000000 := by omega
            have hneq : (x.s != x.r + x.c + a3 + a4) = false := by simp; omega
            have a40 : -6000000000000 ≤ a4 := by omega
            have a41 : a4 ≤ 6000000000000 := by omega
            clear hbal
            clear es er ec s1 r1 c1
            have HD := Lib.hid (Blk.new wr 51 #[.int .i64 3, .int .i64 0])
            obtain ⟨D, hD⟩ : ∃ D, D = wr.heap.size := ⟨_, rfl⟩
            rw [← hD] at HD
            have hGD : G < D := by rw [hD]; exact HS.out.giv.lt
            have hTD : G + 1 < D := by rw [hD]; exact HS.out.tol.lt
            have hgD : g < D := by rw [hD]; exact HS.out.sit.obj.lt
            have HDe := Lib.hid hD
            clear hD
            go_wp2_with fail
            rw [← HDe.out]
            refine (act_at (x' := Rt.zero) (y := 0) (V := #[.int .i64 x.s, .int .i64 x.r, .int .i64 x.c, .int .i64 a3, .int .i64 a4]) (HS.out.alloc _).sit.obj HT.out HS.out.sit.okx HN.out HY.out HO.out).mono ?_
            rintro e w3 ⟨rfl, ho3, hb3⟩
            have HS3 := Lib.hid ((HS.out.alloc _).told HX2.out ho3 hb3)
            have HD3 := Lib.hid (HD.out.grown hb3 (by simp; omega))
            have hG3 := HS3.out.giv.lt
            have hT3 := HS3.out.tol.lt
            have hD3 := HD3.out.lt
            obtain ⟨g0, g1, g2, g3, g4, gf0, gf1, gf2, _⟩ := set_at HS3.out.giv
            obtain ⟨t0, t1, t2, t3, t4, tf0, tf1, tf2, _⟩ := set_at HS3.out.tol
            have e0 := HD3.out.cell 0
            have e1 := HD3.out.cell 1
            simp at e0 e1
            have nGT : G ≠ G + 1 := by omega
            have nDG : D ≠ G := by omega
            have nDT : D ≠ G + 1 := by omega
            clear ho3 hb3 HS HD HD3
            go_wp2
            go_roundw
            case rel => exact ⟨k + 1, Rt.zero, gs, gr, gc, ts + x.s, tr + x.r, tc + x.c, by omega, by go_num, (((HS3.out.setT 0 _ rfl).setT 1 _ rfl).setT 2 _ rfl).alloc _, ⟨by have := HBAL.out.es; simp [Rt.zero]; omega, by have := HBAL.out.er; simp [Rt.zero]; omega, by have := HBAL.out.ec; simp [Rt.zero]; omega, by have := HBAL.out.s0; omega, by have := HBAL.out.r0; omega, by have := HBAL.out.c0; omega, by have := HBAL.out.s1; omega, by have := HBAL.out.r1; omega, by have := HBAL.out.c1; omega⟩, fun _ => rfl⟩
            case measure => simp [intOf] <;> omega
          · obtain rfl : k = n + 1 := by omega
            obtain rfl : x = Rt.zero := HEND.out rfl
            obtain ⟨es, er, ec, _⟩ := HBAL.out
            have es' : gs = ts := by rw [es]; simp [Rt.zero]
            have er' : gr = tr := by rw [er]; simp [Rt.zero]
            have ec' : gc = tc := by rw [ec]; simp [Rt.zero]
            clear es er ec
            subst es' er' ec'
            obtain ⟨g0, g1, g2, g3, g4, _⟩ := set_at HS.out.giv
            obtain ⟨t0, t1, t2, t3, t4, _⟩ := set_at HS.out.tol
            go_wp2_with fail
            refine (open_at HS.out.sit.obj HT.out HS.out.sit.okx (set_zero HT.out)).mono ?_
            rintro e w4 ⟨rfl, hb4⟩
            replace HS := Lib.hid (HS.out.sit.keep hb4)
            clear hb4 g0 g1 g2 g3 g4 t0 t1 t2 t3 t4
            go_wp2_with fail
            refine (awake49 _).mono ?_
            rintro e w2 ⟨rfl, hb2⟩
            have HB := Lib.hid (Below.on HS.out.below hb2)
            clear hb2
            go_wp2
            go_ret
            exact ⟨rfl, HB.out⟩
  · have HT := Lib.hid ht
    clear ht
    go_enter Try.func7, Try.ntmps7
    go_wp2_with fail
    refine (new_bad_at HT.out).mono ?_
    rintro e w1 ⟨rfl, hb1⟩
    go_wp2_with fail
    refine (awake49 _).mono ?_
    rintro e w2 ⟨rfl, hb2⟩
    have HB := Lib.hid (Below.on hb1 hb2)
    clear hb2
    go_wp2
    go_ret
    exact ⟨rfl, HB.out⟩
end Go.Proofs.Ytpalmlcepppifaa
