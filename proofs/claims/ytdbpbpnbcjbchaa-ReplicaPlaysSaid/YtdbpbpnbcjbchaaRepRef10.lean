/- The reference's Lead. -/
import Derived.Test.YtdbpbpnbcjbchaaRepRef9
set_option linter.unusedVariables false
namespace Go.Proofs.Ytdbpbpnbcjbchaa
open Go.RowKit
namespace Rp
section
variable {B : Nat} {w : World} {h b n : Nat} {s : St} {lv : Nat → Value} {cv : Value}
set_option maxHeartbeats 1000000 in
theorem rlead_bad (c : Rf B w h b n s lv cv) {x : Int} (hx : x < 0 ∨ (n : Int) ≤ x) :
    Calls Try.prog 36 #[.pointer (some ⟨h, 0, none⟩), .int .i64 x] w fun e w' => e = .returned (.int .i64 2) ∧ w = w' := by
  have HC := Lib.hid c
  clear c
  go_enter Try.func36, Try.ntmps36
  go_wp2_with fail
  refine (rhas_no HC.out hx).mono ?_
  rintro e w1 ⟨rfl, rfl⟩
  go_wp2
  go_ret
  exact ⟨rfl, rfl⟩
set_option maxHeartbeats 1000000 in
theorem rlead_down (c : Rf B w h b n s lv cv) {i : Nat} (hi : i < n) (a0 : (s.nd i).down = true) :
    Calls Try.prog 36 #[.pointer (some ⟨h, 0, none⟩), .int .i64 (i : Int)] w fun e w' => e = .returned (.int .i64 8) ∧ w = w' := by
  have hn7 := c.n7
  obtain ⟨g0, _⟩ := c.g0
  obtain ⟨p0, p1, _, _, _⟩ := c.at_ hi
  rw [a0] at p0
  have HC := Lib.hid c
  clear c
  go_enter Try.func36, Try.ntmps36
  go_wp2_with fail
  refine (rhas_yes HC.out hi).mono ?_
  rintro e w1 ⟨rfl, rfl⟩
  go_wp2
  go_ret
  exact ⟨rfl, rfl⟩
set_option maxHeartbeats 1000000 in
theorem rlead_cut (c : Rf B w h b n s lv cv) {i : Nat} (hi : i < n) (a0 : (s.nd i).down = false) (a1 : (s.nd i).cut = true) :
    Calls Try.prog 36 #[.pointer (some ⟨h, 0, none⟩), .int .i64 (i : Int)] w fun e w' => e = .returned (.int .i64 25) ∧ w = w' := by
  have hn7 := c.n7
  obtain ⟨g0, _⟩ := c.g0
  obtain ⟨p0, p1, _, _, _⟩ := c.at_ hi
  rw [a0] at p0
  rw [a1] at p1
  have HC := Lib.hid c
  clear c
  go_enter Try.func36, Try.ntmps36
  go_wp2_with fail
  refine (rhas_yes HC.out hi).mono ?_
  rintro e w1 ⟨rfl, rfl⟩
  go_wp2
  go_ret
  exact ⟨rfl, rfl⟩
theorem ledS_as (s : St) (n i e bb : Nat) : setN (setN (epd s e n) i { (epd s e n).nd i with log := (s.nd bb).log }) i { (setN (epd s e n) i { (epd s e n).nd i with log := (s.nd bb).log }).nd i with led := e } = ledS s n i e bb := by
  unfold ledS
  rw [setN_two, setN_two, setN_at, setN_at]
theorem bet_gt {a c : Log} (h : last c < last a) : bet a c = true := by unfold bet; rw [if_neg (by omega)]; exact decide_eq_true h
theorem bet_lt {a c : Log} (h : last a < last c) : bet a c = false := by unfold bet; rw [if_neg (by omega)]; exact decide_eq_false (by omega)
theorem bet_eq {a c : Log} (h : last a = last c) : bet a c = decide (c.length < a.length) := by unfold bet; rw [if_pos h]
/-- Behind the log's copy. -/
def Pl (B : Nat) (w : World) (h b n : Nat) (s : St) (wx : World) : Prop := (∃ lv' cv', Rf B wx h b n s lv' cv') ∧ RDid B w wx h b n s
theorem Pl.of {w2 w6 : World} {D6 : Option Addr} {c6 i : Nat} {l : Log} (c2 : Rf B w2 h b n s lv cv) (hi : i < n) (hD : RDid B w w2 h b n s) (hl : l.length ≤ 1024) (hb6 : Below w2.heap.size w2 w6)
    (hown6 : w6.ownsRow w2.heap.size 73 2 (.slice D6 l.length c6) l.length (row (l.length * 2) (Ent l))) :
    Hid (Pl B w h b n (setN s i { s.nd i with log := l }) (w6.setCell ⟨b, i * 5 + 4, none⟩ (.slice D6 l.length c6))) := by
  have hBz : B ≤ w2.heap.size := by have := c2.hB; have := c2.grp.lt; omega
  have hR := c2.relog hi hb6 (own_base hown6 hBz) hl
  exact Lib.hid ⟨⟨_, _, hR⟩, hD.trans ((c2.kept hb6).trans ((c2.keep hb6).node hR))⟩
set_option maxHeartbeats 40000000 in
set_option maxRecDepth 100000 in
theorem rlead_main (c : Rf B w h b n s lv cv) {i : Nat} (hi : i < n) (a0 : (s.nd i).down = false) (a1 : (s.nd i).cut = false) (hgg : gr s n + 1 ≤ 1000000) :
    Calls Try.prog 36 #[.pointer (some ⟨h, 0, none⟩), .int .i64 (i : Int)] w fun e w' => e = .returned (.int .i64 ((if 2 * rcnt s n ≤ n then 23 else 0 : Nat) : Int)) ∧ RDid B w w' h b n (if 2 * rcnt s n ≤ n then s else ledS s n i (gr s n + 1) ((bst s n).getD 0)) := by
  obtain ⟨i0, hq, hz0, hz1, hz2⟩ := info_parts Try.infoEntR
  have hn7 := c.n7
  have hn1 := c.n1
  obtain ⟨g0, _⟩ := c.g0
  obtain ⟨p0, p1, _, _, _⟩ := c.at_ hi
  rw [a0] at p0
  rw [a1] at p1
  have hhw := c.grp.lt
  have hbw := c.nds.lt
  have hhb : h ≠ b := blk_ne c.grp c.nds (by decide)
  have HC := Lib.hid c
  have HGG := Lib.hid hgg
  obtain ⟨y, hy⟩ : ∃ y : Nat, y = (if 2 * rcnt s n ≤ n then 23 else 0 : Nat) := ⟨_, rfl⟩
  obtain ⟨sf, hsf⟩ : ∃ sf, sf = (if 2 * rcnt s n ≤ n then s else ledS s n i (gr s n + 1) ((bst s n).getD 0)) := ⟨_, rfl⟩
  rw [← hsf, ← hy]
  have HYY := Lib.hid hy
  have HSS := Lib.hid hsf
  clear c hgg a0 a1 hy hsf
  go_enter Try.func36, Try.ntmps36
  go_wp2_with fail
  refine (rhas_yes HC.out hi).mono ?_
  rintro e w1 ⟨rfl, rfl⟩
  go_wp2
  go_loopw [5, 6, 7, 8] (fun a b2 d j wr => ∃ k r g : Nat, ∃ bo : Option Nat, k ≤ n ∧ a = .int .i64 r ∧ b2 = .int .i64 g ∧ d = bval bo ∧ j = .int .i64 k ∧ Hid (r = rcnt s k) ∧ Hid (g = gr s k) ∧ Hid (bo = bst s k) ∧ Hid (Below w.heap.size w wr)) (fun _ _ _ j _ => 20 - (intOf j).toNat)
  case atStart => exact ⟨0, 0, 0, none, Nat.zero_le _, rfl, rfl, rfl, rfl, rfl, rfl, rfl, Below.refl _ _⟩
  case round =>
    obtain ⟨k, r, g, bo, hk, rfl, rfl, rfl, rfl, HR, HG, HBO, HD⟩ := hrel
    have hrk : r ≤ 7 := by rw [HR.out]; exact Nat.le_trans (cnt_le _ _) (by omega)
    have HCR := Lib.hid (HC.out.keep HD.out)
    have g0 := HCR.out.g0.1
    clear p0 p1
    by_cases hkn : k < n
    · have hk7 : (k : Int) < 7 := by omega
      obtain ⟨p0, p1, p2, p3, p4⟩ := HCR.out.at_ hkn
      obtain ⟨Ak, ck, hlk, hck, _⟩ := HCR.out.log hkn
      have he6 := (HC.out.e k hkn).1
      have hL24 := HC.out.l k hkn
      obtain ⟨Lk, hLk⟩ : ∃ L, L = (s.nd k).log.length := ⟨_, rfl⟩
      rw [← hLk] at hlk hck hL24
      rw [hlk] at p4
      have HLK := Lib.hid hlk
      have HLN := Lib.hid hLk
      have HAL := Lib.hid ((Below.refl wr.heap.size wr).alloc (Nat.le_refl _) (.cells #[.bool (s.nd k).down, .bool (s.nd k).cut, .int .i64 ((s.nd k).ep : Int), .int .i64 ((s.nd k).led : Int), .slice Ak Lk ck] 71))
      have HLD := Lib.hid (Blk.new wr 71 #[.bool (s.nd k).down, .bool (s.nd k).cut, .int .i64 ((s.nd k).ep : Int), .int .i64 ((s.nd k).led : Int), .slice Ak Lk ck])
      have hcl := fun (w' : World) => rreach_any w' (s.nd k) (.slice Ak Lk ck)
      clear hlk hLk
      cases hu : up (s.nd k) with
      | false =>
        rw [hu] at hcl
        have HCL := Lib.hid hcl
        have H1 : Hid (r = rcnt s (k + 1)) := by rw [HR.out]; exact (cnt_no _ hu).symm
        have H2 : Hid (g = gr s (k + 1)) := by rw [HG.out]; simp only [gr, hu, Bool.false_eq_true, if_false]; first | exact rfl | exact trivial
        have H3 : Hid (bo = bst s (k + 1)) := by rw [HBO.out]; simp only [bst, hu, Bool.false_eq_true, if_false]; first | exact rfl | exact trivial
        clear hcl hu
        go_wp2_with fail
        refine (HCL.out _).mono ?_
        rintro e w2 ⟨rfl, hb2⟩
        have HD2 := Lib.hid (Below.on (Below.on HD.out HAL.out) hb2)
        clear hb2
        go_wp2
        go_roundw
        case rel => exact ⟨k + 1, r, g, bo, by omega, rfl, rfl, rfl, by go_num, H1, H2, H3, HD2⟩
        case measure => simp [intOf]; omega
      | true =>
        rw [hu] at hcl
        have HCL := Lib.hid hcl
        have hw1 : IntKind.i64.wrap ((r : Int) + 1) = (r : Int) + 1 := IntWalk.i64_in _ (by omega)
        have H1 : Hid (r + 1 = rcnt s (k + 1)) := by rw [HR.out]; exact (cnt_up _ hu).symm
        have HU := Lib.hid hu
        obtain ⟨q0, hq0⟩ : ∃ q0, q0 = wr.heap.size := ⟨_, rfl⟩
        have HQ0 := Lib.hid hq0
        clear hcl hu
        go_wp2_with fail
        refine (HCL.out _).mono ?_
        rintro e w2 ⟨rfl, hb2⟩
        have HB2 := Lib.hid (Below.on HAL.out hb2)
        have HD2 := Lib.hid (Below.on HD.out HB2.out)
        have HN2 := Lib.hid (HLD.out.keep hb2)
        have HC2 := Lib.hid (HC.out.keep HD2.out)
        rw [← hq0] at HN2 ⊢
        clear hb2 g0 p0 p1 p2 p3 p4 hq0
        have l2 : w2.cell? ⟨q0, 2, none⟩ = some (.int .i64 ((s.nd k).ep : Int)) := HN2.out.cell 2
        go_upto_if 55 with (fail)
        go_cut [6] (fun s6 wx => ∃ G : Nat, s6 = .int .i64 (G : Int) ∧ Hid (G = gr s (k + 1)) ∧ wx = w2)
        case first =>
          cases hgt : decide (g < (s.nd k).ep) with
          | true =>
            have H2 : Hid ((s.nd k).ep = gr s (k + 1)) := by
              have h1 := HG.out
              have h2 : gr s k < (s.nd k).ep := by have := of_decide_eq_true hgt; omega
              simp only [gr, HU.out, if_true, h2]; first | exact rfl | exact trivial
            clear hgt
            go_wp2_with fail
            go_meet
            case rel => exact ⟨(s.nd k).ep, rfl, H2, rfl⟩
          | false =>
            have H2 : Hid (g = gr s (k + 1)) := by
              have h1 := HG.out
              have h2 : ¬ gr s k < (s.nd k).ep := by have := of_decide_eq_false hgt; omega
              simp only [gr, HU.out, if_true, h2, if_false]; exact h1
            clear hgt
            go_wp2_with fail
            go_meet
            case rel => exact ⟨g, rfl, H2, rfl⟩
        case rest =>
          obtain ⟨G, rfl, H2, hwx⟩ := hcut
          obtain rfl := hwx.symm
          clear l2
          cases bo with
          | none =>
            have H3 : Hid (some k = bst s (k + 1)) := by
              simp only [bst, HU.out, if_true]; rw [← HBO.out]; first | exact rfl | exact trivial
            unfold bval
            go_wp2_with fail
            go_quiet (fail)
            go_wp2
            have HD3 := Lib.hid (Below.on HD2.out (below_drewN (Below.refl _ _) nq))
            go_roundw
            case rel => exact ⟨k + 1, r + 1, G, some k, by omega, by go_num, rfl, rfl, by go_num, H1, H2, H3, HD3⟩
            case measure => simp [intOf]; omega
          | some bb =>
            have hbl := (bst_lt s k bb HBO.out.symm).1
            have hbn : bb < n := by omega
            have hb7 : (bb : Int) < 7 := by omega
            have hb0 : decide ((bb : Int) < 0) = false := decide_eq_false (by omega)
            obtain ⟨Ab, cb, hlb, hcb, _⟩ := HC2.out.log hbn
            have hLb24 := HC.out.l bb hbn
            obtain ⟨ln, hln⟩ : ∃ z, z = last (s.nd k).log := ⟨_, rfl⟩
            obtain ⟨lb, hlbb⟩ : ∃ z, z = last (s.nd bb).log := ⟨_, rfl⟩
            have HLAST : Hid (ln = last (s.nd k).log ∧ lb = last (s.nd bb).log) := Lib.hid ⟨hln, hlbb⟩
            have HKL : Hid (∀ w', Below w2.heap.size w2 w' → Calls Try.prog 47 #[.agg #[.bool (s.nd k).down, .bool (s.nd k).cut, .int .i64 ((s.nd k).ep : Int), .int .i64 ((s.nd k).led : Int), .slice Ak Lk ck]] w' fun e w'' => e = .returned (.int .i64 (ln : Int)) ∧ Below w2.heap.size w2 w'') := Lib.hid fun w' hw => by
              obtain ⟨A9, c9, e9, _, h9⟩ := (HC2.out.keep hw).log hkn
              rw [HLK.out] at e9
              injection e9 with e9 _ e8
              subst e9 e8
              rw [hln, HLN.out]
              exact (rlast_any h9 (HC.out.l k hkn)).mono fun e w'' ⟨h1, h2⟩ => ⟨h1, Below.on hw h2⟩
            obtain ⟨Lb, hLb⟩ : ∃ L, L = (s.nd bb).log.length := ⟨_, rfl⟩
            have HLBN := Lib.hid hLb
            rw [← hLb] at hlb hcb hLb24
            have HBL : Hid (∀ w', Below w2.heap.size w2 w' → Calls Try.prog 47 #[.agg #[.bool (s.nd bb).down, .bool (s.nd bb).cut, .int .i64 ((s.nd bb).ep : Int), .int .i64 ((s.nd bb).led : Int), .slice Ab Lb cb]] w' fun e w'' => e = .returned (.int .i64 (lb : Int)) ∧ Below w2.heap.size w2 w'') := Lib.hid fun w' hw => by
              obtain ⟨A9, c9, e9, _, h9⟩ := (HC2.out.keep hw).log hbn
              rw [hlb] at e9
              injection e9 with e9 _ e8
              subst e9 e8
              rw [hlbb, hLb]
              exact (rlast_any h9 (HC.out.l bb hbn)).mono fun e w'' ⟨h1, h2⟩ => ⟨h1, Below.on hw h2⟩
            have HALL : Hid (∀ w', Below w2.heap.size w2 w' → w'.cell? ⟨h, 0, none⟩ = some (.slice (some ⟨b, 0, none⟩) n n) ∧ w'.cell? ⟨q0, 0, none⟩ = some (.bool (s.nd k).down) ∧ w'.cell? ⟨q0, 1, none⟩ = some (.bool (s.nd k).cut) ∧ w'.cell? ⟨q0, 2, none⟩ = some (.int .i64 ((s.nd k).ep : Int)) ∧ w'.cell? ⟨q0, 3, none⟩ = some (.int .i64 ((s.nd k).led : Int)) ∧ w'.cell? ⟨q0, 4, none⟩ = some (.slice Ak Lk ck) ∧ w'.cell? ⟨b, bb * 5, none⟩ = some (.bool (s.nd bb).down) ∧ w'.cell? ⟨b, bb * 5 + 1, none⟩ = some (.bool (s.nd bb).cut) ∧ w'.cell? ⟨b, bb * 5 + 2, none⟩ = some (.int .i64 ((s.nd bb).ep : Int)) ∧ w'.cell? ⟨b, bb * 5 + 3, none⟩ = some (.int .i64 ((s.nd bb).led : Int)) ∧ w'.cell? ⟨b, bb * 5 + 4, none⟩ = some (.slice Ab Lb cb) ∧ Below w2.heap.size w2 w') := Lib.hid fun w' hw => by
              obtain ⟨x0, x1, x2, x3, x4⟩ := (HC2.out.keep hw).at_ hbn
              have hN := HN2.out.keep hw
              rw [hlb] at x4
              exact ⟨(HC2.out.keep hw).g0.1, hN.cell 0, hN.cell 1, hN.cell 2, hN.cell 3, hN.cell 4, x0, x1, x2, x3, x4, hw⟩
            have A0 : Below w2.heap.size w2 w2.drew := (Below.refl _ _).drew
            clear hlb hln hlbb hLb
            unfold bval
            go_upto_region 16 with (fail)
            go_cut [100] (fun cc wx => cc = .bool (bet (s.nd k).log (s.nd bb).log) ∧ Hid (Below w2.heap.size w2 wx))
            case first =>
              have hcs : lb < ln ∨ ln < lb ∨ (ln = lb ∧ Lb < Lk) ∨ (ln = lb ∧ ¬ Lb < Lk) := by omega
              rcases hcs with hcs | hcs | hcs | hcs
              · as_aux_lemma =>
                have q1 : decide ((lb : Int) < (ln : Int)) = true := decide_eq_true (by omega)
                have r1 : decide (lb < ln) = true := decide_eq_true (by omega)
                have HBT : Hid (bet (s.nd k).log (s.nd bb).log = true) := Lib.hid (bet_gt (by rw [← HLAST.out.1, ← HLAST.out.2]; exact hcs))
                clear hcs
                refine wp_region_held_drew (S := fun w' => w'.cell? ⟨h, 0, none⟩ = some (.slice (some ⟨b, 0, none⟩) n n) ∧ w'.cell? ⟨q0, 0, none⟩ = some (.bool (s.nd k).down) ∧ w'.cell? ⟨q0, 1, none⟩ = some (.bool (s.nd k).cut) ∧ w'.cell? ⟨q0, 2, none⟩ = some (.int .i64 ((s.nd k).ep : Int)) ∧ w'.cell? ⟨q0, 3, none⟩ = some (.int .i64 ((s.nd k).led : Int)) ∧ w'.cell? ⟨q0, 4, none⟩ = some (.slice Ak Lk ck) ∧ w'.cell? ⟨b, bb * 5, none⟩ = some (.bool (s.nd bb).down) ∧ w'.cell? ⟨b, bb * 5 + 1, none⟩ = some (.bool (s.nd bb).cut) ∧ w'.cell? ⟨b, bb * 5 + 2, none⟩ = some (.int .i64 ((s.nd bb).ep : Int)) ∧ w'.cell? ⟨b, bb * 5 + 3, none⟩ = some (.int .i64 ((s.nd bb).led : Int)) ∧ w'.cell? ⟨b, bb * 5 + 4, none⟩ = some (.slice Ab Lb cb) ∧ Below w2.heap.size w2 w') (by kernel_rfl) (HALL.out _ (by assumption)) (fun hHeld => ?_)
                change wpAnyH _ _ _ _ _ 43 (Array.replicate 43 false) _ _
                refine wpAnyH_take (i := 0) (oi := ?o1) (v := ?v1) ?hi1 (by kernel_rfl) (by kernel_rfl) (by kernel_rfl) ?hQ1 ?hy1 (by assumption) ?hr1
                case hi1 => (simp only [List.getElem?_toArray, List.getElem?_cons_zero]; exact rfl)
                case hQ1 => exact fun _ _ _ h => h
                case hy1 =>
                  refine Or.inl ⟨by rfl, ?_⟩
                  intro w' hSw
                  (try dsimp only at hSw)
                  go_simp
                  all_goals with_reducible rfl
                try simp only [Act.put, List.setIfInBounds_toArray, List.set_cons_zero, List.set_cons_succ]
                refine wpAnyH_take (i := 1) (oi := ?o2) (v := ?v2) ?hi2 (by kernel_rfl) (by kernel_rfl) (by kernel_rfl) ?hQ2 ?hy2 (by assumption) ?hr2
                case hi2 => (simp only [List.getElem?_toArray, List.getElem?_cons_succ, List.getElem?_cons_zero]; exact rfl)
                case hQ2 => exact fun _ _ _ h => h
                case hy2 =>
                  refine Or.inl ⟨by rfl, ?_⟩
                  intro w' hSw
                  (try dsimp only at hSw)
                  go_simp
                  all_goals with_reducible rfl
                try simp only [Act.put, List.setIfInBounds_toArray, List.set_cons_zero, List.set_cons_succ]
                refine wpAnyH_take (i := 2) (oi := ?o3) (v := ?v3) ?hi3 (by kernel_rfl) (by kernel_rfl) (by kernel_rfl) ?hQ3 ?hy3 (by assumption) ?hr3
                case hi3 => (simp only [List.getElem?_toArray, List.getElem?_cons_succ, List.getElem?_cons_zero]; exact rfl)
                case hQ3 => exact fun _ _ _ h => h
                case hy3 =>
                  refine Or.inl ⟨by rfl, ?_⟩
                  intro w' hSw
                  (try dsimp only at hSw)
                  go_simp
                  all_goals with_reducible rfl
                try simp only [Act.put, List.setIfInBounds_toArray, List.set_cons_zero, List.set_cons_succ]
                refine wpAnyH_take (i := 3) (oi := ?o4) (v := ?v4) ?hi4 (by kernel_rfl) (by kernel_rfl) (by kernel_rfl) ?hQ4 ?hy4 (by assumption) ?hr4
                case hi4 => (simp only [List.getElem?_toArray, List.getElem?_cons_succ, List.getElem?_cons_zero]; exact rfl)
                case hQ4 => exact fun _ _ _ h => h
                case hy4 =>
                  refine Or.inl ⟨by rfl, ?_⟩
                  intro w' hSw
                  (try dsimp only at hSw)
                  go_simp
                  all_goals with_reducible rfl
                try simp only [Act.put, List.setIfInBounds_toArray, List.set_cons_zero, List.set_cons_succ]
                refine wpAnyH_take (i := 5) (oi := ?o5) (v := ?v5) ?hi5 (by kernel_rfl) (by kernel_rfl) (by kernel_rfl) ?hQ5 ?hy5 (by assumption) ?hr5
                case hi5 => (simp only [List.getElem?_toArray, List.getElem?_cons_succ, List.getElem?_cons_zero]; exact rfl)
                case hQ5 => exact fun _ _ _ h => h
                case hy5 =>
                  refine Or.inl ⟨by rfl, ?_⟩
                  intro w' hSw
                  (try dsimp only at hSw)
                  go_simp
                  all_goals with_reducible rfl
                try simp only [Act.put, List.setIfInBounds_toArray, List.set_cons_zero, List.set_cons_succ]
                refine wpAnyH_take (i := 6) (oi := ?o6) (v := ?v6) ?hi6 (by kernel_rfl) (by kernel_rfl) (by kernel_rfl) ?hQ6 ?hy6 (by assumption) ?hr6
                case hi6 => (simp only [List.getElem?_toArray, List.getElem?_cons_succ, List.getElem?_cons_zero]; exact rfl)
                case hQ6 => exact fun _ _ _ h => h
                case hy6 =>
                  refine Or.inl ⟨by rfl, ?_⟩
                  intro w' hSw
                  (try dsimp only at hSw)
                  go_simp
                  all_goals with_reducible rfl
                try simp only [Act.put, List.setIfInBounds_toArray, List.set_cons_zero, List.set_cons_succ]
                refine wpAnyH_take (i := 7) (oi := ?o7) (v := ?v7) ?hi7 (by kernel_rfl) (by kernel_rfl) (by kernel_rfl) ?hQ7 ?hy7 (by assumption) ?hr7
                case hi7 => (simp only [List.getElem?_toArray, List.getElem?_cons_succ, List.getElem?_cons_zero]; exact rfl)
                case hQ7 => exact fun _ _ _ h => h
                case hy7 =>
                  refine Or.inl ⟨by rfl, ?_⟩
                  intro w' hSw
                  (try dsimp only at hSw)
                  go_simp
                  all_goals with_reducible rfl
                try simp only [Act.put, List.setIfInBounds_toArray, List.set_cons_zero, List.set_cons_succ]
                refine wpAnyH_take (i := 8) (oi := ?o8) (v := ?v8) ?hi8 (by kernel_rfl) (by kernel_rfl) (by kernel_rfl) ?hQ8 ?hy8 (by assumption) ?hr8
                case hi8 => (simp only [List.getElem?_toArray, List.getElem?_cons_succ, List.getElem?_cons_zero]; exact rfl)
                case hQ8 => exact fun _ _ _ h => h
                case hy8 =>
                  refine Or.inl ⟨by rfl, ?_⟩
                  intro w' hSw
                  (try dsimp only at hSw)
                  go_simp
                  all_goals with_reducible rfl
                try simp only [Act.put, List.setIfInBounds_toArray, List.set_cons_zero, List.set_cons_succ]
                refine wpAnyH_take (i := 9) (oi := ?o9) (v := ?v9) ?hi9 (by kernel_rfl) (by kernel_rfl) (by kernel_rfl) ?hQ9 ?hy9 (by assumption) ?hr9
                case hi9 => (simp only [List.getElem?_toArray, List.getElem?_cons_succ, List.getElem?_cons_zero]; exact rfl)
                case hQ9 => exact fun _ _ _ h => h
                case hy9 =>
                  refine Or.inl ⟨by rfl, ?_⟩
                  intro w' hSw
                  (try dsimp only at hSw)
                  go_simp
                  all_goals with_reducible rfl
                try simp only [Act.put, List.setIfInBounds_toArray, List.set_cons_zero, List.set_cons_succ]
                refine wpAnyH_take (i := 10) (oi := ?o10) (v := ?v10) ?hi10 (by kernel_rfl) (by kernel_rfl) (by kernel_rfl) ?hQ10 ?hy10 (by assumption) ?hr10
                case hi10 => (simp only [List.getElem?_toArray, List.getElem?_cons_succ, List.getElem?_cons_zero]; exact rfl)
                case hQ10 => exact fun _ _ _ h => h
                case hy10 =>
                  refine Or.inl ⟨by rfl, ?_⟩
                  intro w' hSw
                  (try dsimp only at hSw)
                  go_simp
                  all_goals with_reducible rfl
                try simp only [Act.put, List.setIfInBounds_toArray, List.set_cons_zero, List.set_cons_succ]
                refine wpAnyH_take (i := 11) (oi := ?o11) (v := ?v11) ?hi11 (by kernel_rfl) (by kernel_rfl) (by kernel_rfl) ?hQ11 ?hy11 (by assumption) ?hr11
                case hi11 => (simp only [List.getElem?_toArray, List.getElem?_cons_succ, List.getElem?_cons_zero]; exact rfl)
                case hQ11 => exact fun _ _ _ h => h
                case hy11 =>
                  refine Or.inl ⟨by rfl, ?_⟩
                  intro w' hSw
                  (try dsimp only at hSw)
                  go_simp
                  all_goals with_reducible rfl
                try simp only [Act.put, List.setIfInBounds_toArray, List.set_cons_zero, List.set_cons_succ]
                refine wpAnyH_ready (rs := [4]) (by kernel_rfl) (by simp) ?_
                refine AllReadyH.cons (o := ?o12) ?hi12 ?hs12 AllReadyH.nil
                case hi12 => (simp only [List.getElem?_toArray, List.getElem?_cons_succ, List.getElem?_cons_zero]; exact rfl)
                intro K hK
                go_simp
                (go_at_call 47; (with_reducible refine (HKL.out _ ?_).mono ?_); (assumption); rintro e5 w5 ⟨rfl, t5⟩)
                refine hK.out _ _ (HALL.out _ (by assumption)) (fun hHeld => ?_)
                clear hK K
                try simp only [Act.put, List.setIfInBounds_toArray, List.set_cons_zero, List.set_cons_succ]
                refine wpAnyH_ready (rs := [12]) (by kernel_rfl) (by simp) ?_
                refine AllReadyH.cons (o := ?o13) ?hi13 ?hs13 AllReadyH.nil
                case hi13 => (simp only [List.getElem?_toArray, List.getElem?_cons_succ, List.getElem?_cons_zero]; exact rfl)
                intro K hK
                go_simp
                (go_at_call 47; (with_reducible refine (HBL.out _ ?_).mono ?_); (assumption); rintro e5 w5 ⟨rfl, t5⟩)
                refine hK.out _ _ (HALL.out _ (by assumption)) (fun hHeld => ?_)
                clear hK K
                try simp only [Act.put, List.setIfInBounds_toArray, List.set_cons_zero, List.set_cons_succ]
                refine wpAnyH_take (i := 13) (oi := ?o14) (v := ?v14) ?hi14 (by kernel_rfl) (by kernel_rfl) (by kernel_rfl) ?hQ14 ?hy14 (by assumption) ?hr14
                case hi14 => (simp only [List.getElem?_toArray, List.getElem?_cons_succ, List.getElem?_cons_zero]; exact rfl)
                case hQ14 => exact fun _ _ _ h => h
                case hy14 =>
                  refine Or.inl ⟨by rfl, ?_⟩
                  intro w' hSw
                  (try dsimp only at hSw)
                  go_simp
                  all_goals with_reducible rfl
                try simp only [Act.put, List.setIfInBounds_toArray, List.set_cons_zero, List.set_cons_succ]
                refine wpAnyH_take (i := 14) (oi := ?o15) (v := ?v15) ?hi15 (by kernel_rfl) (by kernel_rfl) (by kernel_rfl) ?hQ15 ?hy15 (by assumption) ?hr15
                case hi15 => (simp only [List.getElem?_toArray, List.getElem?_cons_succ, List.getElem?_cons_zero]; exact rfl)
                case hQ15 => exact fun _ _ _ h => h
                case hy15 =>
                  refine Or.inl ⟨by rfl, ?_⟩
                  intro w' hSw
                  (try dsimp only at hSw)
                  go_simp
                  all_goals with_reducible rfl
                try simp only [Act.put, List.setIfInBounds_toArray, List.set_cons_zero, List.set_cons_succ]
                refine wpAnyH_take (i := 15) (oi := ?o16) (v := ?v16) ?hi16 (by kernel_rfl) (by kernel_rfl) (by kernel_rfl) ?hQ16 ?hy16 (by assumption) ?hr16
                case hi16 => (simp only [List.getElem?_toArray, List.getElem?_cons_succ, List.getElem?_cons_zero]; exact rfl)
                case hQ16 => exact fun _ _ _ h => h
                case hy16 =>
                  refine Or.inl ⟨by rfl, ?_⟩
                  intro w' hSw
                  (try dsimp only at hSw)
                  go_simp
                  all_goals with_reducible rfl
                try simp only [Act.put, List.setIfInBounds_toArray, List.set_cons_zero, List.set_cons_succ]
                refine wpAnyH_take (i := 16) (oi := ?o17) (v := undef) ?hi17 (by kernel_rfl) (by kernel_rfl) (by kernel_rfl) ?hQ17 ?hy17 (by assumption) ?hr17
                case hi17 => (simp only [List.getElem?_toArray, List.getElem?_cons_succ, List.getElem?_cons_zero]; exact rfl)
                case hQ17 => exact fun _ _ _ h => h
                case hy17 => exact Or.inr ⟨by rfl, rfl⟩
                try simp only [Act.put, List.setIfInBounds_toArray, List.set_cons_zero, List.set_cons_succ]
                refine wpAnyH_take (i := 17) (oi := ?o18) (v := undef) ?hi18 (by kernel_rfl) (by kernel_rfl) (by kernel_rfl) ?hQ18 ?hy18 (by assumption) ?hr18
                case hi18 => (simp only [List.getElem?_toArray, List.getElem?_cons_succ, List.getElem?_cons_zero]; exact rfl)
                case hQ18 => exact fun _ _ _ h => h
                case hy18 => exact Or.inr ⟨by rfl, rfl⟩
                try simp only [Act.put, List.setIfInBounds_toArray, List.set_cons_zero, List.set_cons_succ]
                refine wpAnyH_take (i := 18) (oi := ?o19) (v := undef) ?hi19 (by kernel_rfl) (by kernel_rfl) (by kernel_rfl) ?hQ19 ?hy19 (by assumption) ?hr19
                case hi19 => (simp only [List.getElem?_toArray, List.getElem?_cons_succ, List.getElem?_cons_zero]; exact rfl)
                case hQ19 => exact fun _ _ _ h => h
                case hy19 => exact Or.inr ⟨by rfl, rfl⟩
                try simp only [Act.put, List.setIfInBounds_toArray, List.set_cons_zero, List.set_cons_succ]
                refine wpAnyH_take (i := 19) (oi := ?o20) (v := undef) ?hi20 (by kernel_rfl) (by kernel_rfl) (by kernel_rfl) ?hQ20 ?hy20 (by assumption) ?hr20
                case hi20 => (simp only [List.getElem?_toArray, List.getElem?_cons_succ, List.getElem?_cons_zero]; exact rfl)
                case hQ20 => exact fun _ _ _ h => h
                case hy20 => exact Or.inr ⟨by rfl, rfl⟩
                try simp only [Act.put, List.setIfInBounds_toArray, List.set_cons_zero, List.set_cons_succ]
                refine wpAnyH_take (i := 20) (oi := ?o21) (v := undef) ?hi21 (by kernel_rfl) (by kernel_rfl) (by kernel_rfl) ?hQ21 ?hy21 (by assumption) ?hr21
                case hi21 => (simp only [List.getElem?_toArray, List.getElem?_cons_succ, List.getElem?_cons_zero]; exact rfl)
                case hQ21 => exact fun _ _ _ h => h
                case hy21 => exact Or.inr ⟨by rfl, rfl⟩
                try simp only [Act.put, List.setIfInBounds_toArray, List.set_cons_zero, List.set_cons_succ]
                refine wpAnyH_take (i := 21) (oi := ?o22) (v := undef) ?hi22 (by kernel_rfl) (by kernel_rfl) (by kernel_rfl) ?hQ22 ?hy22 (by assumption) ?hr22
                case hi22 => (simp only [List.getElem?_toArray, List.getElem?_cons_succ, List.getElem?_cons_zero]; exact rfl)
                case hQ22 => exact fun _ _ _ h => h
                case hy22 => exact Or.inr ⟨by rfl, rfl⟩
                try simp only [Act.put, List.setIfInBounds_toArray, List.set_cons_zero, List.set_cons_succ]
                refine wpAnyH_take (i := 22) (oi := ?o23) (v := undef) ?hi23 (by kernel_rfl) (by kernel_rfl) (by kernel_rfl) ?hQ23 ?hy23 (by assumption) ?hr23
                case hi23 => (simp only [List.getElem?_toArray, List.getElem?_cons_succ, List.getElem?_cons_zero]; exact rfl)
                case hQ23 => exact fun _ _ _ h => h
                case hy23 => exact Or.inr ⟨by rfl, rfl⟩
                try simp only [Act.put, List.setIfInBounds_toArray, List.set_cons_zero, List.set_cons_succ]
                refine wpAnyH_take (i := 23) (oi := ?o24) (v := undef) ?hi24 (by kernel_rfl) (by kernel_rfl) (by kernel_rfl) ?hQ24 ?hy24 (by assumption) ?hr24
                case hi24 => (simp only [List.getElem?_toArray, List.getElem?_cons_succ, List.getElem?_cons_zero]; exact rfl)
                case hQ24 => exact fun _ _ _ h => h
                case hy24 => exact Or.inr ⟨by rfl, rfl⟩
                try simp only [Act.put, List.setIfInBounds_toArray, List.set_cons_zero, List.set_cons_succ]
                refine wpAnyH_take (i := 24) (oi := ?o25) (v := undef) ?hi25 (by kernel_rfl) (by kernel_rfl) (by kernel_rfl) ?hQ25 ?hy25 (by assumption) ?hr25
                case hi25 => (simp only [List.getElem?_toArray, List.getElem?_cons_succ, List.getElem?_cons_zero]; exact rfl)
                case hQ25 => exact fun _ _ _ h => h
                case hy25 => exact Or.inr ⟨by rfl, rfl⟩
                try simp only [Act.put, List.setIfInBounds_toArray, List.set_cons_zero, List.set_cons_succ]
                refine wpAnyH_take (i := 25) (oi := ?o26) (v := undef) ?hi26 (by kernel_rfl) (by kernel_rfl) (by kernel_rfl) ?hQ26 ?hy26 (by assumption) ?hr26
                case hi26 => (simp only [List.getElem?_toArray, List.getElem?_cons_succ, List.getElem?_cons_zero]; exact rfl)
                case hQ26 => exact fun _ _ _ h => h
                case hy26 => exact Or.inr ⟨by rfl, rfl⟩
                try simp only [Act.put, List.setIfInBounds_toArray, List.set_cons_zero, List.set_cons_succ]
                refine wpAnyH_take (i := 26) (oi := ?o27) (v := undef) ?hi27 (by kernel_rfl) (by kernel_rfl) (by kernel_rfl) ?hQ27 ?hy27 (by assumption) ?hr27
                case hi27 => (simp only [List.getElem?_toArray, List.getElem?_cons_succ, List.getElem?_cons_zero]; exact rfl)
                case hQ27 => exact fun _ _ _ h => h
                case hy27 => exact Or.inr ⟨by rfl, rfl⟩
                try simp only [Act.put, List.setIfInBounds_toArray, List.set_cons_zero, List.set_cons_succ]
                refine wpAnyH_take (i := 27) (oi := ?o28) (v := undef) ?hi28 (by kernel_rfl) (by kernel_rfl) (by kernel_rfl) ?hQ28 ?hy28 (by assumption) ?hr28
                case hi28 => (simp only [List.getElem?_toArray, List.getElem?_cons_succ, List.getElem?_cons_zero]; exact rfl)
                case hQ28 => exact fun _ _ _ h => h
                case hy28 => exact Or.inr ⟨by rfl, rfl⟩
                try simp only [Act.put, List.setIfInBounds_toArray, List.set_cons_zero, List.set_cons_succ]
                refine wpAnyH_take (i := 28) (oi := ?o29) (v := undef) ?hi29 (by kernel_rfl) (by kernel_rfl) (by kernel_rfl) ?hQ29 ?hy29 (by assumption) ?hr29
                case hi29 => (simp only [List.getElem?_toArray, List.getElem?_cons_succ, List.getElem?_cons_zero]; exact rfl)
                case hQ29 => exact fun _ _ _ h => h
                case hy29 => exact Or.inr ⟨by rfl, rfl⟩
                try simp only [Act.put, List.setIfInBounds_toArray, List.set_cons_zero, List.set_cons_succ]
                refine wpAnyH_take (i := 29) (oi := ?o30) (v := undef) ?hi30 (by kernel_rfl) (by kernel_rfl) (by kernel_rfl) ?hQ30 ?hy30 (by assumption) ?hr30
                case hi30 => (simp only [List.getElem?_toArray, List.getElem?_cons_succ, List.getElem?_cons_zero]; exact rfl)
                case hQ30 => exact fun _ _ _ h => h
                case hy30 => exact Or.inr ⟨by rfl, rfl⟩
                try simp only [Act.put, List.setIfInBounds_toArray, List.set_cons_zero, List.set_cons_succ]
                refine wpAnyH_take (i := 30) (oi := ?o31) (v := undef) ?hi31 (by kernel_rfl) (by kernel_rfl) (by kernel_rfl) ?hQ31 ?hy31 (by assumption) ?hr31
                case hi31 => (simp only [List.getElem?_toArray, List.getElem?_cons_succ, List.getElem?_cons_zero]; exact rfl)
                case hQ31 => exact fun _ _ _ h => h
                case hy31 => exact Or.inr ⟨by rfl, rfl⟩
                try simp only [Act.put, List.setIfInBounds_toArray, List.set_cons_zero, List.set_cons_succ]
                refine wpAnyH_take (i := 31) (oi := ?o32) (v := undef) ?hi32 (by kernel_rfl) (by kernel_rfl) (by kernel_rfl) ?hQ32 ?hy32 (by assumption) ?hr32
                case hi32 => (simp only [List.getElem?_toArray, List.getElem?_cons_succ, List.getElem?_cons_zero]; exact rfl)
                case hQ32 => exact fun _ _ _ h => h
                case hy32 => exact Or.inr ⟨by rfl, rfl⟩
                try simp only [Act.put, List.setIfInBounds_toArray, List.set_cons_zero, List.set_cons_succ]
                refine wpAnyH_take (i := 32) (oi := ?o33) (v := undef) ?hi33 (by kernel_rfl) (by kernel_rfl) (by kernel_rfl) ?hQ33 ?hy33 (by assumption) ?hr33
                case hi33 => (simp only [List.getElem?_toArray, List.getElem?_cons_succ, List.getElem?_cons_zero]; exact rfl)
                case hQ33 => exact fun _ _ _ h => h
                case hy33 => exact Or.inr ⟨by rfl, rfl⟩
                try simp only [Act.put, List.setIfInBounds_toArray, List.set_cons_zero, List.set_cons_succ]
                refine wpAnyH_take (i := 33) (oi := ?o34) (v := undef) ?hi34 (by kernel_rfl) (by kernel_rfl) (by kernel_rfl) ?hQ34 ?hy34 (by assumption) ?hr34
                case hi34 => (simp only [List.getElem?_toArray, List.getElem?_cons_succ, List.getElem?_cons_zero]; exact rfl)
                case hQ34 => exact fun _ _ _ h => h
                case hy34 => exact Or.inr ⟨by rfl, rfl⟩
                try simp only [Act.put, List.setIfInBounds_toArray, List.set_cons_zero, List.set_cons_succ]
                refine wpAnyH_take (i := 34) (oi := ?o35) (v := undef) ?hi35 (by kernel_rfl) (by kernel_rfl) (by kernel_rfl) ?hQ35 ?hy35 (by assumption) ?hr35
                case hi35 => (simp only [List.getElem?_toArray, List.getElem?_cons_succ, List.getElem?_cons_zero]; exact rfl)
                case hQ35 => exact fun _ _ _ h => h
                case hy35 => exact Or.inr ⟨by rfl, rfl⟩
                try simp only [Act.put, List.setIfInBounds_toArray, List.set_cons_zero, List.set_cons_succ]
                refine wpAnyH_take (i := 35) (oi := ?o36) (v := undef) ?hi36 (by kernel_rfl) (by kernel_rfl) (by kernel_rfl) ?hQ36 ?hy36 (by assumption) ?hr36
                case hi36 => (simp only [List.getElem?_toArray, List.getElem?_cons_succ, List.getElem?_cons_zero]; exact rfl)
                case hQ36 => exact fun _ _ _ h => h
                case hy36 => exact Or.inr ⟨by rfl, rfl⟩
                try simp only [Act.put, List.setIfInBounds_toArray, List.set_cons_zero, List.set_cons_succ]
                refine wpAnyH_take (i := 36) (oi := ?o37) (v := undef) ?hi37 (by kernel_rfl) (by kernel_rfl) (by kernel_rfl) ?hQ37 ?hy37 (by assumption) ?hr37
                case hi37 => (simp only [List.getElem?_toArray, List.getElem?_cons_succ, List.getElem?_cons_zero]; exact rfl)
                case hQ37 => exact fun _ _ _ h => h
                case hy37 => exact Or.inr ⟨by rfl, rfl⟩
                try simp only [Act.put, List.setIfInBounds_toArray, List.set_cons_zero, List.set_cons_succ]
                refine wpAnyH_take (i := 37) (oi := ?o38) (v := undef) ?hi38 (by kernel_rfl) (by kernel_rfl) (by kernel_rfl) ?hQ38 ?hy38 (by assumption) ?hr38
                case hi38 => (simp only [List.getElem?_toArray, List.getElem?_cons_succ, List.getElem?_cons_zero]; exact rfl)
                case hQ38 => exact fun _ _ _ h => h
                case hy38 => exact Or.inr ⟨by rfl, rfl⟩
                try simp only [Act.put, List.setIfInBounds_toArray, List.set_cons_zero, List.set_cons_succ]
                refine wpAnyH_take (i := 38) (oi := ?o39) (v := undef) ?hi39 (by kernel_rfl) (by kernel_rfl) (by kernel_rfl) ?hQ39 ?hy39 (by assumption) ?hr39
                case hi39 => (simp only [List.getElem?_toArray, List.getElem?_cons_succ, List.getElem?_cons_zero]; exact rfl)
                case hQ39 => exact fun _ _ _ h => h
                case hy39 => exact Or.inr ⟨by rfl, rfl⟩
                try simp only [Act.put, List.setIfInBounds_toArray, List.set_cons_zero, List.set_cons_succ]
                refine wpAnyH_take (i := 39) (oi := ?o40) (v := undef) ?hi40 (by kernel_rfl) (by kernel_rfl) (by kernel_rfl) ?hQ40 ?hy40 (by assumption) ?hr40
                case hi40 => (simp only [List.getElem?_toArray, List.getElem?_cons_succ, List.getElem?_cons_zero]; exact rfl)
                case hQ40 => exact fun _ _ _ h => h
                case hy40 => exact Or.inr ⟨by rfl, rfl⟩
                try simp only [Act.put, List.setIfInBounds_toArray, List.set_cons_zero, List.set_cons_succ]
                refine wpAnyH_take (i := 40) (oi := ?o41) (v := undef) ?hi41 (by kernel_rfl) (by kernel_rfl) (by kernel_rfl) ?hQ41 ?hy41 (by assumption) ?hr41
                case hi41 => (simp only [List.getElem?_toArray, List.getElem?_cons_succ, List.getElem?_cons_zero]; exact rfl)
                case hQ41 => exact fun _ _ _ h => h
                case hy41 => exact Or.inr ⟨by rfl, rfl⟩
                try simp only [Act.put, List.setIfInBounds_toArray, List.set_cons_zero, List.set_cons_succ]
                refine wpAnyH_take (i := 41) (oi := ?o42) (v := undef) ?hi42 (by kernel_rfl) (by kernel_rfl) (by kernel_rfl) ?hQ42 ?hy42 (by assumption) ?hr42
                case hi42 => (simp only [List.getElem?_toArray, List.getElem?_cons_succ, List.getElem?_cons_zero]; exact rfl)
                case hQ42 => exact fun _ _ _ h => h
                case hy42 => exact Or.inr ⟨by rfl, rfl⟩
                try simp only [Act.put, List.setIfInBounds_toArray, List.set_cons_zero, List.set_cons_succ]
                refine wpAnyH_take (i := 42) (oi := ?o43) (v := ?v43) ?hi43 (by kernel_rfl) (by kernel_rfl) (by kernel_rfl) ?hQ43 ?hy43 (by assumption) ?hr43
                case hi43 => (simp only [List.getElem?_toArray, List.getElem?_cons_succ, List.getElem?_cons_zero]; exact rfl)
                case hQ43 => exact fun _ _ _ h => h
                case hy43 =>
                  refine Or.inl ⟨by rfl, ?_⟩
                  intro w' hSw
                  (try dsimp only at hSw)
                  go_simp
                  all_goals with_reducible rfl
                try simp only [Act.put, List.setIfInBounds_toArray, List.set_cons_zero, List.set_cons_succ]
                refine wpAnyH_done (by kernel_rfl) ?_ _
                all_goals
                  go_wp2_with fail
                  go_meet
                  case rel => exact ⟨by rw [HBT.out], Lib.hid t5⟩
              · as_aux_lemma =>
                have q1 : decide ((lb : Int) < (ln : Int)) = false := decide_eq_false (by omega)
                have r1 : decide (lb < ln) = false := decide_eq_false (by omega)
                have q2 : ((ln : Int) == (lb : Int)) = false := by simp; omega
                have r2 : (ln == lb) = false := by simp; omega
                have HBT : Hid (bet (s.nd k).log (s.nd bb).log = false) := Lib.hid (bet_lt (by rw [← HLAST.out.1, ← HLAST.out.2]; exact hcs))
                clear hcs
                refine wp_region_held_drew (S := fun w' => w'.cell? ⟨h, 0, none⟩ = some (.slice (some ⟨b, 0, none⟩) n n) ∧ w'.cell? ⟨q0, 0, none⟩ = some (.bool (s.nd k).down) ∧ w'.cell? ⟨q0, 1, none⟩ = some (.bool (s.nd k).cut) ∧ w'.cell? ⟨q0, 2, none⟩ = some (.int .i64 ((s.nd k).ep : Int)) ∧ w'.cell? ⟨q0, 3, none⟩ = some (.int .i64 ((s.nd k).led : Int)) ∧ w'.cell? ⟨q0, 4, none⟩ = some (.slice Ak Lk ck) ∧ w'.cell? ⟨b, bb * 5, none⟩ = some (.bool (s.nd bb).down) ∧ w'.cell? ⟨b, bb * 5 + 1, none⟩ = some (.bool (s.nd bb).cut) ∧ w'.cell? ⟨b, bb * 5 + 2, none⟩ = some (.int .i64 ((s.nd bb).ep : Int)) ∧ w'.cell? ⟨b, bb * 5 + 3, none⟩ = some (.int .i64 ((s.nd bb).led : Int)) ∧ w'.cell? ⟨b, bb * 5 + 4, none⟩ = some (.slice Ab Lb cb) ∧ Below w2.heap.size w2 w') (by kernel_rfl) (HALL.out _ (by assumption)) (fun hHeld => ?_)
                change wpAnyH _ _ _ _ _ 43 (Array.replicate 43 false) _ _
                refine wpAnyH_take (i := 0) (oi := ?o44) (v := ?v44) ?hi44 (by kernel_rfl) (by kernel_rfl) (by kernel_rfl) ?hQ44 ?hy44 (by assumption) ?hr44
                case hi44 => (simp only [List.getElem?_toArray, List.getElem?_cons_zero]; exact rfl)
                case hQ44 => exact fun _ _ _ h => h
                case hy44 =>
                  refine Or.inl ⟨by rfl, ?_⟩
                  intro w' hSw
                  (try dsimp only at hSw)
                  go_simp
                  all_goals with_reducible rfl
                try simp only [Act.put, List.setIfInBounds_toArray, List.set_cons_zero, List.set_cons_succ]
                refine wpAnyH_take (i := 1) (oi := ?o45) (v := ?v45) ?hi45 (by kernel_rfl) (by kernel_rfl) (by kernel_rfl) ?hQ45 ?hy45 (by assumption) ?hr45
                case hi45 => (simp only [List.getElem?_toArray, List.getElem?_cons_succ, List.getElem?_cons_zero]; exact rfl)
                case hQ45 => exact fun _ _ _ h => h
                case hy45 =>
                  refine Or.inl ⟨by rfl, ?_⟩
                  intro w' hSw
                  (try dsimp only at hSw)
                  go_simp
                  all_goals with_reducible rfl
                try simp only [Act.put, List.setIfInBounds_toArray, List.set_cons_zero, List.set_cons_succ]
                refine wpAnyH_take (i := 2) (oi := ?o46) (v := ?v46) ?hi46 (by kernel_rfl) (by kernel_rfl) (by kernel_rfl) ?hQ46 ?hy46 (by assumption) ?hr46
                case hi46 => (simp only [List.getElem?_toArray, List.getElem?_cons_succ, List.getElem?_cons_zero]; exact rfl)
                case hQ46 => exact fun _ _ _ h => h
                case hy46 =>
                  refine Or.inl ⟨by rfl, ?_⟩
                  intro w' hSw
                  (try dsimp only at hSw)
                  go_simp
                  all_goals with_reducible rfl
                try simp only [Act.put, List.setIfInBounds_toArray, List.set_cons_zero, List.set_cons_succ]
                refine wpAnyH_take (i := 3) (oi := ?o47) (v := ?v47) ?hi47 (by kernel_rfl) (by kernel_rfl) (by kernel_rfl) ?hQ47 ?hy47 (by assumption) ?hr47
                case hi47 => (simp only [List.getElem?_toArray, List.getElem?_cons_succ, List.getElem?_cons_zero]; exact rfl)
                case hQ47 => exact fun _ _ _ h => h
                case hy47 =>
                  refine Or.inl ⟨by rfl, ?_⟩
                  intro w' hSw
                  (try dsimp only at hSw)
                  go_simp
                  all_goals with_reducible rfl
                try simp only [Act.put, List.setIfInBounds_toArray, List.set_cons_zero, List.set_cons_succ]
                refine wpAnyH_take (i := 5) (oi := ?o48) (v := ?v48) ?hi48 (by kernel_rfl) (by kernel_rfl) (by kernel_rfl) ?hQ48 ?hy48 (by assumption) ?hr48
                case hi48 => (simp only [List.getElem?_toArray, List.getElem?_cons_succ, List.getElem?_cons_zero]; exact rfl)
                case hQ48 => exact fun _ _ _ h => h
                case hy48 =>
                  refine Or.inl ⟨by rfl, ?_⟩
                  intro w' hSw
                  (try dsimp only at hSw)
                  go_simp
                  all_goals with_reducible rfl
                try simp only [Act.put, List.setIfInBounds_toArray, List.set_cons_zero, List.set_cons_succ]
                refine wpAnyH_take (i := 6) (oi := ?o49) (v := ?v49) ?hi49 (by kernel_rfl) (by kernel_rfl) (by kernel_rfl) ?hQ49 ?hy49 (by assumption) ?hr49
                case hi49 => (simp only [List.getElem?_toArray, List.getElem?_cons_succ, List.getElem?_cons_zero]; exact rfl)
                case hQ49 => exact fun _ _ _ h => h
                case hy49 =>
                  refine Or.inl ⟨by rfl, ?_⟩
                  intro w' hSw
                  (try dsimp only at hSw)
                  go_simp
                  all_goals with_reducible rfl
                try simp only [Act.put, List.setIfInBounds_toArray, List.set_cons_zero, List.set_cons_succ]
                refine wpAnyH_take (i := 7) (oi := ?o50) (v := ?v50) ?hi50 (by kernel_rfl) (by kernel_rfl) (by kernel_rfl) ?hQ50 ?hy50 (by assumption) ?hr50
                case hi50 => (simp only [List.getElem?_toArray, List.getElem?_cons_succ, List.getElem?_cons_zero]; exact rfl)
                case hQ50 => exact fun _ _ _ h => h
                case hy50 =>
                  refine Or.inl ⟨by rfl, ?_⟩
                  intro w' hSw
                  (try dsimp only at hSw)
                  go_simp
                  all_goals with_reducible rfl
                try simp only [Act.put, List.setIfInBounds_toArray, List.set_cons_zero, List.set_cons_succ]
                refine wpAnyH_take (i := 8) (oi := ?o51) (v := ?v51) ?hi51 (by kernel_rfl) (by kernel_rfl) (by kernel_rfl) ?hQ51 ?hy51 (by assumption) ?hr51
                case hi51 => (simp only [List.getElem?_toArray, List.getElem?_cons_succ, List.getElem?_cons_zero]; exact rfl)
                case hQ51 => exact fun _ _ _ h => h
                case hy51 =>
                  refine Or.inl ⟨by rfl, ?_⟩
                  intro w' hSw
                  (try dsimp only at hSw)
                  go_simp
                  all_goals with_reducible rfl
                try simp only [Act.put, List.setIfInBounds_toArray, List.set_cons_zero, List.set_cons_succ]
                refine wpAnyH_take (i := 9) (oi := ?o52) (v := ?v52) ?hi52 (by kernel_rfl) (by kernel_rfl) (by kernel_rfl) ?hQ52 ?hy52 (by assumption) ?hr52
                case hi52 => (simp only [List.getElem?_toArray, List.getElem?_cons_succ, List.getElem?_cons_zero]; exact rfl)
                case hQ52 => exact fun _ _ _ h => h
                case hy52 =>
                  refine Or.inl ⟨by rfl, ?_⟩
                  intro w' hSw
                  (try dsimp only at hSw)
                  go_simp
                  all_goals with_reducible rfl
                try simp only [Act.put, List.setIfInBounds_toArray, List.set_cons_zero, List.set_cons_succ]
                refine wpAnyH_take (i := 10) (oi := ?o53) (v := ?v53) ?hi53 (by kernel_rfl) (by kernel_rfl) (by kernel_rfl) ?hQ53 ?hy53 (by assumption) ?hr53
                case hi53 => (simp only [List.getElem?_toArray, List.getElem?_cons_succ, List.getElem?_cons_zero]; exact rfl)
                case hQ53 => exact fun _ _ _ h => h
                case hy53 =>
                  refine Or.inl ⟨by rfl, ?_⟩
                  intro w' hSw
                  (try dsimp only at hSw)
                  go_simp
                  all_goals with_reducible rfl
                try simp only [Act.put, List.setIfInBounds_toArray, List.set_cons_zero, List.set_cons_succ]
                refine wpAnyH_take (i := 11) (oi := ?o54) (v := ?v54) ?hi54 (by kernel_rfl) (by kernel_rfl) (by kernel_rfl) ?hQ54 ?hy54 (by assumption) ?hr54
                case hi54 => (simp only [List.getElem?_toArray, List.getElem?_cons_succ, List.getElem?_cons_zero]; exact rfl)
                case hQ54 => exact fun _ _ _ h => h
                case hy54 =>
                  refine Or.inl ⟨by rfl, ?_⟩
                  intro w' hSw
                  (try dsimp only at hSw)
                  go_simp
                  all_goals with_reducible rfl
                try simp only [Act.put, List.setIfInBounds_toArray, List.set_cons_zero, List.set_cons_succ]
                refine wpAnyH_ready (rs := [4]) (by kernel_rfl) (by simp) ?_
                refine AllReadyH.cons (o := ?o55) ?hi55 ?hs55 AllReadyH.nil
                case hi55 => (simp only [List.getElem?_toArray, List.getElem?_cons_succ, List.getElem?_cons_zero]; exact rfl)
                intro K hK
                go_simp
                (go_at_call 47; (with_reducible refine (HKL.out _ ?_).mono ?_); (assumption); rintro e5 w5 ⟨rfl, t5⟩)
                refine hK.out _ _ (HALL.out _ (by assumption)) (fun hHeld => ?_)
                clear hK K
                try simp only [Act.put, List.setIfInBounds_toArray, List.set_cons_zero, List.set_cons_succ]
                refine wpAnyH_ready (rs := [12]) (by kernel_rfl) (by simp) ?_
                refine AllReadyH.cons (o := ?o56) ?hi56 ?hs56 AllReadyH.nil
                case hi56 => (simp only [List.getElem?_toArray, List.getElem?_cons_succ, List.getElem?_cons_zero]; exact rfl)
                intro K hK
                go_simp
                (go_at_call 47; (with_reducible refine (HBL.out _ ?_).mono ?_); (assumption); rintro e5 w5 ⟨rfl, t5⟩)
                refine hK.out _ _ (HALL.out _ (by assumption)) (fun hHeld => ?_)
                clear hK K
                try simp only [Act.put, List.setIfInBounds_toArray, List.set_cons_zero, List.set_cons_succ]
                refine wpAnyH_take (i := 13) (oi := ?o57) (v := ?v57) ?hi57 (by kernel_rfl) (by kernel_rfl) (by kernel_rfl) ?hQ57 ?hy57 (by assumption) ?hr57
                case hi57 => (simp only [List.getElem?_toArray, List.getElem?_cons_succ, List.getElem?_cons_zero]; exact rfl)
                case hQ57 => exact fun _ _ _ h => h
                case hy57 =>
                  refine Or.inl ⟨by rfl, ?_⟩
                  intro w' hSw
                  (try dsimp only at hSw)
                  go_simp
                  all_goals with_reducible rfl
                try simp only [Act.put, List.setIfInBounds_toArray, List.set_cons_zero, List.set_cons_succ]
                refine wpAnyH_take (i := 14) (oi := ?o58) (v := ?v58) ?hi58 (by kernel_rfl) (by kernel_rfl) (by kernel_rfl) ?hQ58 ?hy58 (by assumption) ?hr58
                case hi58 => (simp only [List.getElem?_toArray, List.getElem?_cons_succ, List.getElem?_cons_zero]; exact rfl)
                case hQ58 => exact fun _ _ _ h => h
                case hy58 =>
                  refine Or.inl ⟨by rfl, ?_⟩
                  intro w' hSw
                  (try dsimp only at hSw)
                  go_simp
                  all_goals with_reducible rfl
                try simp only [Act.put, List.setIfInBounds_toArray, List.set_cons_zero, List.set_cons_succ]
                refine wpAnyH_take (i := 15) (oi := ?o59) (v := ?v59) ?hi59 (by kernel_rfl) (by kernel_rfl) (by kernel_rfl) ?hQ59 ?hy59 (by assumption) ?hr59
                case hi59 => (simp only [List.getElem?_toArray, List.getElem?_cons_succ, List.getElem?_cons_zero]; exact rfl)
                case hQ59 => exact fun _ _ _ h => h
                case hy59 =>
                  refine Or.inl ⟨by rfl, ?_⟩
                  intro w' hSw
                  (try dsimp only at hSw)
                  go_simp
                  all_goals with_reducible rfl
                try simp only [Act.put, List.setIfInBounds_toArray, List.set_cons_zero, List.set_cons_succ]
                refine wpAnyH_take (i := 16) (oi := ?o60) (v := ?v60) ?hi60 (by kernel_rfl) (by kernel_rfl) (by kernel_rfl) ?hQ60 ?hy60 (by assumption) ?hr60
                case hi60 => (simp only [List.getElem?_toArray, List.getElem?_cons_succ, List.getElem?_cons_zero]; exact rfl)
                case hQ60 => exact fun _ _ _ h => h
                case hy60 =>
                  refine Or.inl ⟨by rfl, ?_⟩
                  intro w' hSw
                  (try dsimp only at hSw)
                  go_simp
                  all_goals with_reducible rfl
                try simp only [Act.put, List.setIfInBounds_toArray, List.set_cons_zero, List.set_cons_succ]
                refine wpAnyH_take (i := 18) (oi := ?o61) (v := ?v61) ?hi61 (by kernel_rfl) (by kernel_rfl) (by kernel_rfl) ?hQ61 ?hy61 (by assumption) ?hr61
                case hi61 => (simp only [List.getElem?_toArray, List.getElem?_cons_succ, List.getElem?_cons_zero]; exact rfl)
                case hQ61 => exact fun _ _ _ h => h
                case hy61 =>
                  refine Or.inl ⟨by rfl, ?_⟩
                  intro w' hSw
                  (try dsimp only at hSw)
                  go_simp
                  all_goals with_reducible rfl
                try simp only [Act.put, List.setIfInBounds_toArray, List.set_cons_zero, List.set_cons_succ]
                refine wpAnyH_take (i := 19) (oi := ?o62) (v := ?v62) ?hi62 (by kernel_rfl) (by kernel_rfl) (by kernel_rfl) ?hQ62 ?hy62 (by assumption) ?hr62
                case hi62 => (simp only [List.getElem?_toArray, List.getElem?_cons_succ, List.getElem?_cons_zero]; exact rfl)
                case hQ62 => exact fun _ _ _ h => h
                case hy62 =>
                  refine Or.inl ⟨by rfl, ?_⟩
                  intro w' hSw
                  (try dsimp only at hSw)
                  go_simp
                  all_goals with_reducible rfl
                try simp only [Act.put, List.setIfInBounds_toArray, List.set_cons_zero, List.set_cons_succ]
                refine wpAnyH_take (i := 20) (oi := ?o63) (v := ?v63) ?hi63 (by kernel_rfl) (by kernel_rfl) (by kernel_rfl) ?hQ63 ?hy63 (by assumption) ?hr63
                case hi63 => (simp only [List.getElem?_toArray, List.getElem?_cons_succ, List.getElem?_cons_zero]; exact rfl)
                case hQ63 => exact fun _ _ _ h => h
                case hy63 =>
                  refine Or.inl ⟨by rfl, ?_⟩
                  intro w' hSw
                  (try dsimp only at hSw)
                  go_simp
                  all_goals with_reducible rfl
                try simp only [Act.put, List.setIfInBounds_toArray, List.set_cons_zero, List.set_cons_succ]
                refine wpAnyH_take (i := 21) (oi := ?o64) (v := ?v64) ?hi64 (by kernel_rfl) (by kernel_rfl) (by kernel_rfl) ?hQ64 ?hy64 (by assumption) ?hr64
                case hi64 => (simp only [List.getElem?_toArray, List.getElem?_cons_succ, List.getElem?_cons_zero]; exact rfl)
                case hQ64 => exact fun _ _ _ h => h
                case hy64 =>
                  refine Or.inl ⟨by rfl, ?_⟩
                  intro w' hSw
                  (try dsimp only at hSw)
                  go_simp
                  all_goals with_reducible rfl
                try simp only [Act.put, List.setIfInBounds_toArray, List.set_cons_zero, List.set_cons_succ]
                refine wpAnyH_take (i := 22) (oi := ?o65) (v := ?v65) ?hi65 (by kernel_rfl) (by kernel_rfl) (by kernel_rfl) ?hQ65 ?hy65 (by assumption) ?hr65
                case hi65 => (simp only [List.getElem?_toArray, List.getElem?_cons_succ, List.getElem?_cons_zero]; exact rfl)
                case hQ65 => exact fun _ _ _ h => h
                case hy65 =>
                  refine Or.inl ⟨by rfl, ?_⟩
                  intro w' hSw
                  (try dsimp only at hSw)
                  go_simp
                  all_goals with_reducible rfl
                try simp only [Act.put, List.setIfInBounds_toArray, List.set_cons_zero, List.set_cons_succ]
                refine wpAnyH_take (i := 23) (oi := ?o66) (v := ?v66) ?hi66 (by kernel_rfl) (by kernel_rfl) (by kernel_rfl) ?hQ66 ?hy66 (by assumption) ?hr66
                case hi66 => (simp only [List.getElem?_toArray, List.getElem?_cons_succ, List.getElem?_cons_zero]; exact rfl)
                case hQ66 => exact fun _ _ _ h => h
                case hy66 =>
                  refine Or.inl ⟨by rfl, ?_⟩
                  intro w' hSw
                  (try dsimp only at hSw)
                  go_simp
                  all_goals with_reducible rfl
                try simp only [Act.put, List.setIfInBounds_toArray, List.set_cons_zero, List.set_cons_succ]
                refine wpAnyH_take (i := 24) (oi := ?o67) (v := ?v67) ?hi67 (by kernel_rfl) (by kernel_rfl) (by kernel_rfl) ?hQ67 ?hy67 (by assumption) ?hr67
                case hi67 => (simp only [List.getElem?_toArray, List.getElem?_cons_succ, List.getElem?_cons_zero]; exact rfl)
                case hQ67 => exact fun _ _ _ h => h
                case hy67 =>
                  refine Or.inl ⟨by rfl, ?_⟩
                  intro w' hSw
                  (try dsimp only at hSw)
                  go_simp
                  all_goals with_reducible rfl
                try simp only [Act.put, List.setIfInBounds_toArray, List.set_cons_zero, List.set_cons_succ]
                refine wpAnyH_ready (rs := [17]) (by kernel_rfl) (by simp) ?_
                refine AllReadyH.cons (o := ?o68) ?hi68 ?hs68 AllReadyH.nil
                case hi68 => (simp only [List.getElem?_toArray, List.getElem?_cons_succ, List.getElem?_cons_zero]; exact rfl)
                intro K hK
                go_simp
                (go_at_call 47; (with_reducible refine (HKL.out _ ?_).mono ?_); (assumption); rintro e5 w5 ⟨rfl, t5⟩)
                refine hK.out _ _ (HALL.out _ (by assumption)) (fun hHeld => ?_)
                clear hK K
                try simp only [Act.put, List.setIfInBounds_toArray, List.set_cons_zero, List.set_cons_succ]
                refine wpAnyH_ready (rs := [25]) (by kernel_rfl) (by simp) ?_
                refine AllReadyH.cons (o := ?o69) ?hi69 ?hs69 AllReadyH.nil
                case hi69 => (simp only [List.getElem?_toArray, List.getElem?_cons_succ, List.getElem?_cons_zero]; exact rfl)
                intro K hK
                go_simp
                (go_at_call 47; (with_reducible refine (HBL.out _ ?_).mono ?_); (assumption); rintro e5 w5 ⟨rfl, t5⟩)
                refine hK.out _ _ (HALL.out _ (by assumption)) (fun hHeld => ?_)
                clear hK K
                try simp only [Act.put, List.setIfInBounds_toArray, List.set_cons_zero, List.set_cons_succ]
                refine wpAnyH_take (i := 26) (oi := ?o70) (v := ?v70) ?hi70 (by kernel_rfl) (by kernel_rfl) (by kernel_rfl) ?hQ70 ?hy70 (by assumption) ?hr70
                case hi70 => (simp only [List.getElem?_toArray, List.getElem?_cons_succ, List.getElem?_cons_zero]; exact rfl)
                case hQ70 => exact fun _ _ _ h => h
                case hy70 =>
                  refine Or.inl ⟨by rfl, ?_⟩
                  intro w' hSw
                  (try dsimp only at hSw)
                  go_simp
                  all_goals with_reducible rfl
                try simp only [Act.put, List.setIfInBounds_toArray, List.set_cons_zero, List.set_cons_succ]
                refine wpAnyH_take (i := 27) (oi := ?o71) (v := ?v71) ?hi71 (by kernel_rfl) (by kernel_rfl) (by kernel_rfl) ?hQ71 ?hy71 (by assumption) ?hr71
                case hi71 => (simp only [List.getElem?_toArray, List.getElem?_cons_succ, List.getElem?_cons_zero]; exact rfl)
                case hQ71 => exact fun _ _ _ h => h
                case hy71 =>
                  refine Or.inl ⟨by rfl, ?_⟩
                  intro w' hSw
                  (try dsimp only at hSw)
                  go_simp
                  all_goals with_reducible rfl
                try simp only [Act.put, List.setIfInBounds_toArray, List.set_cons_zero, List.set_cons_succ]
                refine wpAnyH_take (i := 28) (oi := ?o72) (v := undef) ?hi72 (by kernel_rfl) (by kernel_rfl) (by kernel_rfl) ?hQ72 ?hy72 (by assumption) ?hr72
                case hi72 => (simp only [List.getElem?_toArray, List.getElem?_cons_succ, List.getElem?_cons_zero]; exact rfl)
                case hQ72 => exact fun _ _ _ h => h
                case hy72 => exact Or.inr ⟨by rfl, rfl⟩
                try simp only [Act.put, List.setIfInBounds_toArray, List.set_cons_zero, List.set_cons_succ]
                refine wpAnyH_take (i := 29) (oi := ?o73) (v := undef) ?hi73 (by kernel_rfl) (by kernel_rfl) (by kernel_rfl) ?hQ73 ?hy73 (by assumption) ?hr73
                case hi73 => (simp only [List.getElem?_toArray, List.getElem?_cons_succ, List.getElem?_cons_zero]; exact rfl)
                case hQ73 => exact fun _ _ _ h => h
                case hy73 => exact Or.inr ⟨by rfl, rfl⟩
                try simp only [Act.put, List.setIfInBounds_toArray, List.set_cons_zero, List.set_cons_succ]
                refine wpAnyH_take (i := 30) (oi := ?o74) (v := undef) ?hi74 (by kernel_rfl) (by kernel_rfl) (by kernel_rfl) ?hQ74 ?hy74 (by assumption) ?hr74
                case hi74 => (simp only [List.getElem?_toArray, List.getElem?_cons_succ, List.getElem?_cons_zero]; exact rfl)
                case hQ74 => exact fun _ _ _ h => h
                case hy74 => exact Or.inr ⟨by rfl, rfl⟩
                try simp only [Act.put, List.setIfInBounds_toArray, List.set_cons_zero, List.set_cons_succ]
                refine wpAnyH_take (i := 31) (oi := ?o75) (v := undef) ?hi75 (by kernel_rfl) (by kernel_rfl) (by kernel_rfl) ?hQ75 ?hy75 (by assumption) ?hr75
                case hi75 => (simp only [List.getElem?_toArray, List.getElem?_cons_succ, List.getElem?_cons_zero]; exact rfl)
                case hQ75 => exact fun _ _ _ h => h
                case hy75 => exact Or.inr ⟨by rfl, rfl⟩
                try simp only [Act.put, List.setIfInBounds_toArray, List.set_cons_zero, List.set_cons_succ]
                refine wpAnyH_take (i := 32) (oi := ?o76) (v := undef) ?hi76 (by kernel_rfl) (by kernel_rfl) (by kernel_rfl) ?hQ76 ?hy76 (by assumption) ?hr76
                case hi76 => (simp only [List.getElem?_toArray, List.getElem?_cons_succ, List.getElem?_cons_zero]; exact rfl)
                case hQ76 => exact fun _ _ _ h => h
                case hy76 => exact Or.inr ⟨by rfl, rfl⟩
                try simp only [Act.put, List.setIfInBounds_toArray, List.set_cons_zero, List.set_cons_succ]
                refine wpAnyH_take (i := 33) (oi := ?o77) (v := undef) ?hi77 (by kernel_rfl) (by kernel_rfl) (by kernel_rfl) ?hQ77 ?hy77 (by assumption) ?hr77
                case hi77 => (simp only [List.getElem?_toArray, List.getElem?_cons_succ, List.getElem?_cons_zero]; exact rfl)
                case hQ77 => exact fun _ _ _ h => h
                case hy77 => exact Or.inr ⟨by rfl, rfl⟩
                try simp only [Act.put, List.setIfInBounds_toArray, List.set_cons_zero, List.set_cons_succ]
                refine wpAnyH_take (i := 34) (oi := ?o78) (v := undef) ?hi78 (by kernel_rfl) (by kernel_rfl) (by kernel_rfl) ?hQ78 ?hy78 (by assumption) ?hr78
                case hi78 => (simp only [List.getElem?_toArray, List.getElem?_cons_succ, List.getElem?_cons_zero]; exact rfl)
                case hQ78 => exact fun _ _ _ h => h
                case hy78 => exact Or.inr ⟨by rfl, rfl⟩
                try simp only [Act.put, List.setIfInBounds_toArray, List.set_cons_zero, List.set_cons_succ]
                refine wpAnyH_take (i := 35) (oi := ?o79) (v := undef) ?hi79 (by kernel_rfl) (by kernel_rfl) (by kernel_rfl) ?hQ79 ?hy79 (by assumption) ?hr79
                case hi79 => (simp only [List.getElem?_toArray, List.getElem?_cons_succ, List.getElem?_cons_zero]; exact rfl)
                case hQ79 => exact fun _ _ _ h => h
                case hy79 => exact Or.inr ⟨by rfl, rfl⟩
                try simp only [Act.put, List.setIfInBounds_toArray, List.set_cons_zero, List.set_cons_succ]
                refine wpAnyH_take (i := 36) (oi := ?o80) (v := undef) ?hi80 (by kernel_rfl) (by kernel_rfl) (by kernel_rfl) ?hQ80 ?hy80 (by assumption) ?hr80
                case hi80 => (simp only [List.getElem?_toArray, List.getElem?_cons_succ, List.getElem?_cons_zero]; exact rfl)
                case hQ80 => exact fun _ _ _ h => h
                case hy80 => exact Or.inr ⟨by rfl, rfl⟩
                try simp only [Act.put, List.setIfInBounds_toArray, List.set_cons_zero, List.set_cons_succ]
                refine wpAnyH_take (i := 37) (oi := ?o81) (v := undef) ?hi81 (by kernel_rfl) (by kernel_rfl) (by kernel_rfl) ?hQ81 ?hy81 (by assumption) ?hr81
                case hi81 => (simp only [List.getElem?_toArray, List.getElem?_cons_succ, List.getElem?_cons_zero]; exact rfl)
                case hQ81 => exact fun _ _ _ h => h
                case hy81 => exact Or.inr ⟨by rfl, rfl⟩
                try simp only [Act.put, List.setIfInBounds_toArray, List.set_cons_zero, List.set_cons_succ]
                refine wpAnyH_take (i := 38) (oi := ?o82) (v := undef) ?hi82 (by kernel_rfl) (by kernel_rfl) (by kernel_rfl) ?hQ82 ?hy82 (by assumption) ?hr82
                case hi82 => (simp only [List.getElem?_toArray, List.getElem?_cons_succ, List.getElem?_cons_zero]; exact rfl)
                case hQ82 => exact fun _ _ _ h => h
                case hy82 => exact Or.inr ⟨by rfl, rfl⟩
                try simp only [Act.put, List.setIfInBounds_toArray, List.set_cons_zero, List.set_cons_succ]
                refine wpAnyH_take (i := 39) (oi := ?o83) (v := undef) ?hi83 (by kernel_rfl) (by kernel_rfl) (by kernel_rfl) ?hQ83 ?hy83 (by assumption) ?hr83
                case hi83 => (simp only [List.getElem?_toArray, List.getElem?_cons_succ, List.getElem?_cons_zero]; exact rfl)
                case hQ83 => exact fun _ _ _ h => h
                case hy83 => exact Or.inr ⟨by rfl, rfl⟩
                try simp only [Act.put, List.setIfInBounds_toArray, List.set_cons_zero, List.set_cons_succ]
                refine wpAnyH_take (i := 40) (oi := ?o84) (v := undef) ?hi84 (by kernel_rfl) (by kernel_rfl) (by kernel_rfl) ?hQ84 ?hy84 (by assumption) ?hr84
                case hi84 => (simp only [List.getElem?_toArray, List.getElem?_cons_succ, List.getElem?_cons_zero]; exact rfl)
                case hQ84 => exact fun _ _ _ h => h
                case hy84 => exact Or.inr ⟨by rfl, rfl⟩
                try simp only [Act.put, List.setIfInBounds_toArray, List.set_cons_zero, List.set_cons_succ]
                refine wpAnyH_take (i := 41) (oi := ?o85) (v := ?v85) ?hi85 (by kernel_rfl) (by kernel_rfl) (by kernel_rfl) ?hQ85 ?hy85 (by assumption) ?hr85
                case hi85 => (simp only [List.getElem?_toArray, List.getElem?_cons_succ, List.getElem?_cons_zero]; exact rfl)
                case hQ85 => exact fun _ _ _ h => h
                case hy85 =>
                  refine Or.inl ⟨by rfl, ?_⟩
                  intro w' hSw
                  (try dsimp only at hSw)
                  go_simp
                  all_goals with_reducible rfl
                try simp only [Act.put, List.setIfInBounds_toArray, List.set_cons_zero, List.set_cons_succ]
                refine wpAnyH_take (i := 42) (oi := ?o86) (v := ?v86) ?hi86 (by kernel_rfl) (by kernel_rfl) (by kernel_rfl) ?hQ86 ?hy86 (by assumption) ?hr86
                case hi86 => (simp only [List.getElem?_toArray, List.getElem?_cons_succ, List.getElem?_cons_zero]; exact rfl)
                case hQ86 => exact fun _ _ _ h => h
                case hy86 =>
                  refine Or.inl ⟨by rfl, ?_⟩
                  intro w' hSw
                  (try dsimp only at hSw)
                  go_simp
                  all_goals with_reducible rfl
                try simp only [Act.put, List.setIfInBounds_toArray, List.set_cons_zero, List.set_cons_succ]
                refine wpAnyH_done (by kernel_rfl) ?_ _
                all_goals
                  go_wp2_with fail
                  go_meet
                  case rel => exact ⟨by rw [HBT.out], Lib.hid t5⟩
              · have q1 : decide ((lb : Int) < (ln : Int)) = false := decide_eq_false (by omega)
                have r1 : decide (lb < ln) = false := decide_eq_false (by omega)
                have q2 : ((ln : Int) == (lb : Int)) = true := by simp; omega
                have r2 : (ln == lb) = true := by simp; omega
                have q3 : decide ((Lb : Int) < (Lk : Int)) = true := decide_eq_true (by omega)
                have r3 : decide (Lb < Lk) = true := decide_eq_true (by omega)
                have HBT : Hid (bet (s.nd k).log (s.nd bb).log = true) := Lib.hid (by rw [bet_eq (by rw [← HLAST.out.1, ← HLAST.out.2]; exact hcs.1), ← HLN.out, ← HLBN.out]; exact decide_eq_true hcs.2)
                clear hcs
                go_region_held3 (fun w' => w'.cell? ⟨h, 0, none⟩ = some (.slice (some ⟨b, 0, none⟩) n n) ∧ w'.cell? ⟨q0, 0, none⟩ = some (.bool (s.nd k).down) ∧ w'.cell? ⟨q0, 1, none⟩ = some (.bool (s.nd k).cut) ∧ w'.cell? ⟨q0, 2, none⟩ = some (.int .i64 ((s.nd k).ep : Int)) ∧ w'.cell? ⟨q0, 3, none⟩ = some (.int .i64 ((s.nd k).led : Int)) ∧ w'.cell? ⟨q0, 4, none⟩ = some (.slice Ak Lk ck) ∧ w'.cell? ⟨b, bb * 5, none⟩ = some (.bool (s.nd bb).down) ∧ w'.cell? ⟨b, bb * 5 + 1, none⟩ = some (.bool (s.nd bb).cut) ∧ w'.cell? ⟨b, bb * 5 + 2, none⟩ = some (.int .i64 ((s.nd bb).ep : Int)) ∧ w'.cell? ⟨b, bb * 5 + 3, none⟩ = some (.int .i64 ((s.nd bb).led : Int)) ∧ w'.cell? ⟨b, bb * 5 + 4, none⟩ = some (.slice Ab Lb cb) ∧ Below w2.heap.size w2 w')
                  (first
                    | exact HALL.out _ (by assumption))
                  (first
                    | (go_at_call 47; (with_reducible refine (HKL.out _ ?_).mono ?_); (assumption); rintro e5 w5 ⟨rfl, t5⟩)
                    | (go_at_call 47; (with_reducible refine (HBL.out _ ?_).mono ?_); (assumption); rintro e5 w5 ⟨rfl, t5⟩)
                    | fail)
                all_goals
                  go_wp2_with fail
                  go_meet
                  case rel => exact ⟨by rw [HBT.out], Lib.hid t5⟩
              · have q1 : decide ((lb : Int) < (ln : Int)) = false := decide_eq_false (by omega)
                have r1 : decide (lb < ln) = false := decide_eq_false (by omega)
                have q2 : ((ln : Int) == (lb : Int)) = true := by simp; omega
                have r2 : (ln == lb) = true := by simp; omega
                have q3 : decide ((Lb : Int) < (Lk : Int)) = false := decide_eq_false (by omega)
                have r3 : decide (Lb < Lk) = false := decide_eq_false (by omega)
                have HBT : Hid (bet (s.nd k).log (s.nd bb).log = false) := Lib.hid (by rw [bet_eq (by rw [← HLAST.out.1, ← HLAST.out.2]; exact hcs.1), ← HLN.out, ← HLBN.out]; exact decide_eq_false hcs.2)
                clear hcs
                go_region_held3 (fun w' => w'.cell? ⟨h, 0, none⟩ = some (.slice (some ⟨b, 0, none⟩) n n) ∧ w'.cell? ⟨q0, 0, none⟩ = some (.bool (s.nd k).down) ∧ w'.cell? ⟨q0, 1, none⟩ = some (.bool (s.nd k).cut) ∧ w'.cell? ⟨q0, 2, none⟩ = some (.int .i64 ((s.nd k).ep : Int)) ∧ w'.cell? ⟨q0, 3, none⟩ = some (.int .i64 ((s.nd k).led : Int)) ∧ w'.cell? ⟨q0, 4, none⟩ = some (.slice Ak Lk ck) ∧ w'.cell? ⟨b, bb * 5, none⟩ = some (.bool (s.nd bb).down) ∧ w'.cell? ⟨b, bb * 5 + 1, none⟩ = some (.bool (s.nd bb).cut) ∧ w'.cell? ⟨b, bb * 5 + 2, none⟩ = some (.int .i64 ((s.nd bb).ep : Int)) ∧ w'.cell? ⟨b, bb * 5 + 3, none⟩ = some (.int .i64 ((s.nd bb).led : Int)) ∧ w'.cell? ⟨b, bb * 5 + 4, none⟩ = some (.slice Ab Lb cb) ∧ Below w2.heap.size w2 w')
                  (first
                    | exact HALL.out _ (by assumption))
                  (first
                    | (go_at_call 47; (with_reducible refine (HKL.out _ ?_).mono ?_); (assumption); rintro e5 w5 ⟨rfl, t5⟩)
                    | (go_at_call 47; (with_reducible refine (HBL.out _ ?_).mono ?_); (assumption); rintro e5 w5 ⟨rfl, t5⟩)
                    | fail)
                all_goals
                  go_wp2_with fail
                  go_meet
                  case rel => exact ⟨by rw [HBT.out], Lib.hid t5⟩
            case rest =>
              obtain ⟨rfl, HB5⟩ := hcut
              have HD5 := Lib.hid (Below.on HD2.out HB5.out)
              clear A0
              cases hbt : bet (s.nd k).log (s.nd bb).log with
              | true =>
                have H3 : Hid (some k = bst s (k + 1)) := by
                  simp only [bst, HU.out, if_true]; rw [← HBO.out]; simp only [hbt, if_true]; first | exact rfl | exact trivial
                clear hbt
                go_wp2
                go_roundw
                case rel => exact ⟨k + 1, r + 1, G, some k, by omega, by go_num, rfl, rfl, by go_num, H1, H2, H3, HD5⟩
                case measure => simp [intOf]; omega
              | false =>
                have H3 : Hid (some bb = bst s (k + 1)) := by
                  simp only [bst, HU.out, if_true]; rw [← HBO.out]; simp only [hbt, Bool.false_eq_true, if_false]; first | exact rfl | exact trivial
                clear hbt
                go_wp2
                go_roundw
                case rel => exact ⟨k + 1, r + 1, G, some bb, by omega, by go_num, rfl, rfl, by go_num, H1, H2, H3, HD5⟩
                case measure => simp [intOf]; omega
    · obtain rfl : k = n := by omega
      by_cases hle : 2 * r ≤ k
      · have HY1 : Hid (2 * rcnt s k ≤ k) := by rw [← HR.out]; exact hle
        have hw2 : IntKind.i64.wrap (2 * (r : Int)) = 2 * (r : Int) := IntWalk.i64_in _ (by omega)
        have HF := Lib.hid (HC.out.kept HD.out)
        go_wp2
        go_ret
        exact ⟨by rw [HYY.out, if_pos HY1.out]; rfl, by rw [HSS.out, if_pos HY1.out]; exact HF.out⟩
      · have HY1 : Hid (¬ 2 * rcnt s k ≤ k) := by rw [← HR.out]; exact hle
        have hw2 : IntKind.i64.wrap (2 * (r : Int)) = 2 * (r : Int) := IntWalk.i64_in _ (by omega)
        cases bo with
        | none => have := bst_none s k HBO.out.symm; have := HR.out; omega
        | some bb =>
          have hbn := (bst_lt s k bb HBO.out.symm).1
          have hb7 : (bb : Int) < 7 := by omega
          have hg6 : g + 1 ≤ 1000000 := by rw [HG.out]; exact HGG.out
          have hwg : IntKind.i64.wrap ((g : Int) + 1) = ((g + 1 : Nat) : Int) := by rw [IntWalk.i64_in _ (by omega)]; rfl
          obtain ⟨G, hG⟩ : ∃ G, G = g + 1 := ⟨_, rfl⟩
          rw [← hG] at hwg
          have hG6 : G ≤ 1000000 := by omega
          have HGD := Lib.hid hG
          have HF1 := Lib.hid (HC.out.kept HD.out)
          clear hG hg6
          unfold bval
          go_wp2
          go_loopw [10] (fun j wx => ∃ k2 : Nat, k2 ≤ k ∧ j = .int .i64 k2 ∧ Hid ((∃ lv' cv', Rf B wx h b k (epd s G k2) lv' cv') ∧ RDid B w wx h b k (epd s G k2))) (fun j _ => 20 - (intOf j).toNat)
          case atStart => exact ⟨0, Nat.zero_le _, rfl, Lib.hid (by rw [epd_zero]; exact ⟨⟨_, _, HCR.out⟩, HF1.out⟩)⟩
          case round =>
            clear g0 HCR HF1
            obtain ⟨k2, hk2, rfl, HX⟩ := hrel
            obtain ⟨⟨lv2, cv2, hc2⟩, hd2⟩ := HX.out
            have HC2 := Lib.hid hc2
            have HD2 := Lib.hid hd2
            clear hc2 hd2 HX
            have g0 := HC2.out.g0.1
            by_cases hkn : k2 < k
            · have hk7 : (k2 : Int) < 7 := by omega
              obtain ⟨p0, p1, p2, p3, p4⟩ := HC2.out.at_ hkn
              have f2 := (HC2.out.nds.at_ (k := k2 * 5 + 2) (by omega)).2
              have hcl := fun (w' : World) => rreach_any w' ((epd s G k2).nd k2) (lv2 k2)
              rw [epd_up] at hcl
              cases hu : up (s.nd k2) with
              | false =>
                rw [hu] at hcl
                have HCL := Lib.hid hcl
                have HE := Lib.hid (epd_no (s := s) (e := G) hu)
                clear hcl hu
                go_wp2_with fail
                refine (HCL.out _).mono ?_
                rintro e w2 ⟨rfl, hb2⟩
                have HX2 : Hid ((∃ lv' cv', Rf B w2 h b k (epd s G (k2 + 1)) lv' cv') ∧ RDid B w w2 h b k (epd s G (k2 + 1))) := Lib.hid (by
                  rw [← HE.out]
                  exact ⟨⟨_, _, HC2.out.keep hb2⟩, HD2.out.trans (HC2.out.kept hb2)⟩)
                clear hb2
                go_wp2
                go_roundw
                case rel => exact ⟨k2 + 1, by omega, by go_num, HX2⟩
                case measure => simp [intOf]; omega
              | true =>
                rw [hu] at hcl
                have HCL := Lib.hid hcl
                have HE := Lib.hid (epd_yes (s := s) (e := G) hu)
                clear hcl hu
                go_wp2_with fail
                refine (HCL.out _).mono ?_
                rintro e w2 ⟨rfl, hb2⟩
                have HC3 := Lib.hid (HC2.out.keep hb2)
                have HD3 := Lib.hid (HD2.out.trans (HC2.out.kept hb2))
                have hR := HC3.out.put (i := k2) (k := 2) (u := .int .i64 (G : Int)) (d := { (epd s G k2).nd k2 with ep := G }) hkn rfl ⟨hG6, (HC2.out.e k2 hkn).2⟩ (rcell_set _ _ (by omega) (by simp) (by simp) (by simp) (by simp))
                rw [HE.out] at hR
                have HX2 : Hid ((∃ lv' cv', Rf B (w2.setCell ⟨b, k2 * 5 + 2, none⟩ (.int .i64 (G : Int))) h b k (epd s G (k2 + 1)) lv' cv') ∧ RDid B w (w2.setCell ⟨b, k2 * 5 + 2, none⟩ (.int .i64 (G : Int))) h b k (epd s G (k2 + 1))) := Lib.hid ⟨⟨_, _, hR⟩, HD3.out.trans (HC3.out.node hR)⟩
                clear g0 p0 p1 p2 p3 p4 f2 hb2 hR
                have g0 := HC3.out.g0.1
                have p2 := (HC3.out.at_ hkn).2.2.1
                have f2 := (HC3.out.nds.at_ (k := k2 * 5 + 2) (by omega)).2
                go_wp2
                go_roundw
                case rel => exact ⟨k2 + 1, by omega, by go_num, HX2⟩
                case measure => simp [intOf]; omega
            · obtain rfl : k2 = k := by omega
              have hhb2 : h < wr.heap.size := HC2.out.grp.lt
              have hbw2 : b < wr.heap.size := HC2.out.nds.lt
              obtain ⟨Ab, cb, hlb, hcb, hAb⟩ := HC2.out.log hbn
              have b4 := (HC2.out.at_ hbn).2.2.2.2
              have e4 := (HC2.out.at_ hi).2.2.2.2
              have f4 := (HC2.out.nds.at_ (k := i * 5 + 4) (by omega)).2
              have hLb := HC.out.l bb hbn
              rw [epd_log] at hlb hcb hAb
              rw [hlb] at b4
              obtain ⟨l, hl⟩ : ∃ l, l = (s.nd bb).log := ⟨_, rfl⟩
              rw [← hl] at hlb hcb hAb b4 hLb
              have HLL := Lib.hid hl
              have HA := Lib.hid hAb
              have HM : Hid (((wr.drewN 1).alloc (.cells #[] 73)).ownsRow wr.heap.size 73 2 (.slice (some ⟨wr.heap.size, 0, none⟩) 0 0) 0 []) :=
                World.ownsRow_made (e := 73) (size := 2) (base := wr.heap.size) (wr.drewN 1) #[] 0 (Nat.le_refl _) (by unfold maxLen; omega) (by rfl)
              have HBA : Hid (Below wr.heap.size wr ((wr.drewN 1).alloc (.cells #[] 73))) := (below_drewN (Below.refl wr.heap.size wr) 1).alloc (Nat.le_refl _) _
              have HA3 := Lib.hid (HA.out.below HBA.out)
              have HEN := Lib.hid (Ent_one l)
              clear hlb hAb hl
              go_upto_region 25 with (fail)
              go_cut [1] (fun s1 wx => s1 = .int .i64 (i : Int) ∧ Hid (Pl B w h b k2 (setN (epd s G k2) i { (epd s G k2).nd i with log := l }) wx))
              case first =>
                go_region_law (first
                  | (refine step_append_new (by rfl) _ _ _ (by rfl) wr.heap.size 73 i0 _ 2 24 Try.underlying69 hq hz0 hz1 hz2 rfl (by omega) _ (by rfl) HM.out Ab l.length cb (Ent l) (by rfl) HA3.out HEN.out (by unfold maxLen; omega) (by omega) HBA.out.size ?_; intro D5 c5 w5 hown5 hgrow5; have hb5 : Below wr.heap.size wr w5 := own_below HBA.out HM.out HBA.out.size hgrow5; have n0 := (hb5.cell (p := ⟨h, 0, none⟩) hhb2).trans g0; have m0 : h < w5.heap.size := Nat.lt_of_lt_of_le hhb2 hb5.size; have m2 : b < w5.heap.size := Nat.lt_of_lt_of_le hbw2 hb5.size; have y1 := (hb5.cell (p := ⟨b, i * 5 + 4, none⟩) hbw2).trans e4; have y2 := (hb5.frozen (p := ⟨b, i * 5 + 4, none⟩) hbw2).trans f4)
                  | fail)
                all_goals
                  have HP := Pl.of HC2.out hi HD2.out hLb hb5 hown5
                  clear hown5 hgrow5 n0
                  go_wp2_with fail
                  go_meet
                  case rel => exact ⟨rfl, HP⟩
              case rest =>
                obtain ⟨rfl, HP⟩ := hcut
                obtain ⟨⟨lv', cv', hR⟩, hDD⟩ := HP.out
                have k0 := hR.g0.1
                obtain ⟨_, _, _, y3, _⟩ := hR.at_ hi
                have y3f := (hR.nds.at_ (k := i * 5 + 3) (by omega)).2
                have hR2 := hR.put (i := i) (k := 3) (u := .int .i64 (G : Int)) (d := { (setN (epd s G k2) i { (epd s G k2).nd i with log := l }).nd i with led := G }) hi rfl (by rw [setN_at]; exact ⟨(HC2.out.e i hi).1, hG6⟩) (rcell_set _ _ (by omega) (by simp) (by simp) (by simp) (by simp))
                have hD2 := hDD.trans (hR.node hR2)
                rw [HLL.out, ledS_as] at hD2
                have HFF := Lib.hid hD2
                have HBB : Hid ((bst s k2).getD 0 = bb) := Lib.hid (by rw [← HBO.out]; rfl)
                have HGE : Hid (G = gr s k2 + 1) := Lib.hid (by rw [HGD.out, HG.out])
                clear hR hR2 hD2 hDD HP g0 b4 e4 f4 HM HBA HA3 HEN HA
                go_wp2
                go_ret
                exact ⟨by rw [HYY.out, if_neg HY1.out]; rfl, by rw [HSS.out, if_neg HY1.out, HBB.out, ← HGE.out]; exact HFF.out⟩
end
end Rp
end Go.Proofs.Ytdbpbpnbcjbchaa
