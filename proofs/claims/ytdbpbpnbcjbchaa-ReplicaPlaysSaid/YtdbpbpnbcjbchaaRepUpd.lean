/- The walk of update: what a leader commits. -/
import Derived.Test.YtdbpbpnbcjbchaaRepCommon
import Derived.Test.YtdbpbpnbcjbchaaRepMark
import Derived.Deep.RegionLawGrows
import Derived.Deep.RegionHeld3
import Derived.WalkMore
import Derived.Deep.LoopGhost
set_option linter.unusedVariables false
namespace Go.Proofs.Ytdbpbpnbcjbchaa
open Go.RowKit
theorem Try.infoInt : (Try.prog.info? 3).map (·.size) = some 1 := by kernel_rfl
namespace Rp
theorem run_index7 (w : World) (f : Nat → Nat) {v : Nat} (hv : v < 7) :
    (Instr.index 75 (.agg #[.int .i64 ((f 0 : Nat) : Int), .int .i64 ((f 1 : Nat) : Int), .int .i64 ((f 2 : Nat) : Int), .int .i64 ((f 3 : Nat) : Int), .int .i64 ((f 4 : Nat) : Int), .int .i64 ((f 5 : Nat) : Int), .int .i64 ((f 6 : Nat) : Int)]) (.int .i64 (v : Int))).run Try.prog w = .ok (.int .i64 ((f v : Nat) : Int)) w := by
  cases hq : Try.prog.info? 3 with
  | none => have := Try.infoInt; rw [hq] at this; cases this
  | some i =>
    have h1 : i.size = 1 := by have := Try.infoInt; rw [hq] at this; injection this
    have h : v = 0 ∨ v = 1 ∨ v = 2 ∨ v = 3 ∨ v = 4 ∨ v = 5 ∨ v = 6 := by omega
    rcases h with rfl | rfl | rfl | rfl | rfl | rfl | rfl
    all_goals simp [Instr.index, run_underlying Try.underlying75, asIntOf, sizeOf, typeInfo, hq, h1, go_sem]
/-- How far node k agrees with the leader i. -/
def sm (n : Nat) (s : St) (i k : Nat) : Nat := if k < n ∧ (s.nd k).ep = (s.nd i).ep then com (s.nd i).log (s.nd k).log else 0
theorem sm_le (n : Nat) (s : St) (i k : Nat) : sm n s i k ≤ (s.nd i).log.length := by
  unfold sm; split
  · exact (com_le _ _).1
  · exact Nat.zero_le _
/-- The cells of the array behind j nodes. -/
def Sm (n : Nat) (s : St) (i j : Nat) : Nat → Value := fun k => .int .i64 (((if k < j then sm n s i k else 0 : Nat)) : Int)
theorem Sm_put {n : Nat} {s : St} {i j : Nat} (v : Nat) (hv : v = sm n s i j) : ∀ k, k < 7 → Sm n s i (j + 1) k = if k = j then .int .i64 (v : Int) else Sm n s i j k := fun k _ => by
  subst hv
  unfold Sm
  by_cases e : k = j
  · subst e; rw [if_pos rfl, if_pos (by omega)]
  · rw [if_neg e]
    by_cases h : k < j
    · rw [if_pos h, if_pos (by omega)]
    · rw [if_neg h, if_neg (by omega)]
theorem Sm_keep {n : Nat} {s : St} {i j : Nat} (hv : sm n s i j = 0) : ∀ k, k < 7 → Sm n s i j k = Sm n s i (j + 1) k := fun k _ => by
  unfold Sm
  by_cases e : k = j
  · subst e; rw [if_neg (by omega), if_pos (by omega), hv]
  · by_cases h : k < j
    · rw [if_pos h, if_pos (by omega)]
    · rw [if_neg h, if_neg (by omega)]
theorem Sm_end {n : Nat} {s : St} {i : Nat} (hn : n ≤ 7) : ∀ k, k < 7 → Sm n s i n k = .int .i64 ((sm n s i k : Nat) : Int) := fun k _ => by
  unfold Sm
  by_cases h : k < n
  · rw [if_pos h]
  · rw [if_neg h]; unfold sm; rw [if_neg (fun x => h x.1)]
/-- Whether m entries may be committed. -/
def okm (n : Nat) (s : St) (i m : Nat) : Bool := decide (ee (s.nd i).log (m - 1) = (s.nd i).ep) && decide (n < 2 * cnt (fun k => decide (m ≤ sm n s i k)) 7)
/-- How many entries are committed, at most m; 0: no more than before. -/
def top (n : Nat) (s : St) (i : Nat) : Nat → Nat
  | 0 => 0
  | m + 1 => if s.done.length < m + 1 then (if okm n s i (m + 1) = true then m + 1 else top n s i m) else 0
theorem top_out {n : Nat} {s : St} {i m : Nat} (h : ¬ s.done.length < m) : top n s i m = 0 := by
  cases m with
  | zero => rfl
  | succ m => simp only [top]; rw [if_neg h]
theorem top_yes {n : Nat} {s : St} {i m : Nat} (h : s.done.length < m + 1) (ho : okm n s i (m + 1) = true) : top n s i (m + 1) = m + 1 := by
  simp only [top]; rw [if_pos h, if_pos ho]
theorem top_no {n : Nat} {s : St} {i m : Nat} (h : s.done.length < m + 1) (ho : okm n s i (m + 1) = false) : top n s i (m + 1) = top n s i m := by
  simp only [top]; rw [if_pos h, if_neg (by rw [ho]; exact Bool.false_ne_true)]
theorem top_le (n : Nat) (s : St) (i : Nat) : ∀ m, top n s i m ≤ m
  | 0 => Nat.le_refl _
  | m + 1 => by
    have := top_le n s i m
    simp only [top]
    split
    · split
      · exact Nat.le_refl _
      · omega
    · exact Nat.zero_le _
/-- What is committed behind an update by the leader i. -/
def upd (n : Nat) (s : St) (i : Nat) : St := if top n s i (s.nd i).log.length = 0 then s else ⟨s.nd, ((s.nd i).log.take (top n s i (s.nd i).log.length)).map Prod.snd⟩
theorem cnt_up (P : Nat → Bool) {k : Nat} (h : P k = true) : cnt P (k + 1) = cnt P k + 1 := by simp only [cnt]; rw [if_pos h]
theorem cnt_no (P : Nat → Bool) {k : Nat} (h : P k = false) : cnt P (k + 1) = cnt P k := by simp only [cnt]; rw [if_neg (by rw [h]; exact Bool.false_ne_true)]; rfl
theorem cnt_grow (P : Nat → Bool) {k m : Nat} (h : k ≤ m) : cnt P k ≤ cnt P m := by
  induction h with
  | refl => exact Nat.le_refl _
  | step _ ih => exact Nat.le_trans ih (by simp only [cnt]; omega)
theorem own_base {B B' : Nat} {w : World} {e : TypeId} {size : Nat} {v : Value} {n : Nat} {xs : List Value} (h : w.ownsRow B e size v n xs) (hb : B' ≤ B) : w.ownsRow B' e size v n xs :=
  ⟨h.1, h.2.imp id fun ⟨g, cap, cur, h1, h2, h3⟩ => ⟨g, cap, cur, h1, Nat.le_trans hb h2, h3⟩⟩
theorem only_of {w w' : World} (h : Below w.heap.size w w') (g : Nat) : w.grownBy w' (some g) := ⟨h.os, h.tape, h.output, h.size, fun k hk _ => h.block k hk⟩
theorem Tx_take (l : Log) {m : Nat} (hm : m ≤ l.length) : row (m * 1) (Tx l) = row (((l.take m).map Prod.snd).length * 1) (Str ((l.take m).map Prod.snd)) := by
  have e : ((l.take m).map Prod.snd).length = m := by rw [List.length_map, List.length_take]; omega
  rw [e]
  refine row_congr fun j hj => ?_
  unfold Tx Str tt
  rw [List.getD_eq_getElem?_getD, List.getD_eq_getElem?_getD, List.getElem?_map, List.getElem?_take, if_pos (by omega)]
  rw [List.getElem?_eq_getElem (by omega)]
  rfl
theorem Gp.fin {B : Nat} {w : World} {h n : Nat} {s : St} {lv : Nat → Value} {cv v : Value} (c : Gp B w h n s lv cv) {d : List ByteArray} (hv : w.ownsRow B 9 1 v d.length (row (d.length * 1) (Str d))) : Gp B (w.setCell ⟨h, 36, none⟩ v) h n ⟨s.nd, d⟩ lv v := by
  obtain ⟨hne, hnc⟩ := own_ne c
  have hvn : v.ownBlock ≠ some h := fun e => by
    have hb := c.blk
    unfold Arr Blk at hb
    obtain ⟨cur, hh⟩ := own_obj hv e
    rw [hb] at hh
    injection hh with hh
    injection hh with _ hh
    revert hh; decide
  refine ⟨c.blk.put fun j hj => ?_, fun j hj => own_put (c.own j hj) (hne j hj) _ _, own_put hv hvn _ _, c.dif, c.hB, c.n1, c.n7, c.zero, c.l, c.e⟩
  unfold gcell
  by_cases e : j = 36
  · subst e; rfl
  · rw [if_neg e, if_neg e, if_neg e]
/-- The object, its logs lying where they lie. -/
def Upd (B : Nat) (w : World) (h n : Nat) (s : St) (lv : Nat → Value) : Prop := ∃ cv, Gp B w h n s lv cv
/-- Only drawn since. -/
def Dn (w w' : World) : Prop := ∃ k, w' = w.drewN k
theorem Dn.refl (w : World) : Dn w w := ⟨0, rfl⟩
theorem Dn.drew (w : World) : Dn w w.drew := ⟨1, rfl⟩
theorem Dn.on {w w' w'' : World} (h : Dn w w') (h2 : ∃ k, w'' = w'.drewN k) : Dn w w'' := by
  obtain ⟨k, rfl⟩ := h
  obtain ⟨k2, rfl⟩ := h2
  exact ⟨k + k2, by simp [World.drewN, Nat.add_assoc]⟩
theorem Dn.cell {w w' : World} (h : Dn w w') {a : Addr} {v : Value} (hc : w.cell? a = some v) : w'.cell? a = some v := by
  obtain ⟨k, rfl⟩ := h; exact hc
theorem Dn.frozen {w w' : World} (h : Dn w w') {a : Addr} {v : Bool} (hc : w.frozen? a = v) : w'.frozen? a = v := by
  obtain ⟨k, rfl⟩ := h; exact hc
set_option maxHeartbeats 4000000 in
theorem update_any {B : Nat} {w : World} {h n : Nat} {s : St} {lv : Nat → Value} {cv : Value} (c : Gp B w h n s lv cv) {i : Nat} (hi : i < n) :
    Calls Try.prog 32 #[.pointer (some ⟨h, 0, none⟩), .pointer (some ⟨h, 1 + i * 5, none⟩)] w fun e w' => e = .returned (.tuple #[]) ∧ Upd B w' h n (upd n s i) lv ∧ w.grownBy w' (some h) := by
  have hn7 := c.n7
  have hn1 := c.n1
  obtain ⟨_, _, _, _, _, g0, g6⟩ := c.at_ (i := i) (by omega)
  obtain ⟨_, _, p2, _, p4, _⟩ := c.at_ (i := i) (by omega)
  have hhw := c.blk.lt
  have HC := Lib.hid c
  clear c
  go_enter Try.func32, Try.ntmps32
  go_wp2
  go_step3
  go_wp2
  go_loopw [15] (fun j wr => ∃ k : Nat, k ≤ n ∧ j = .int .i64 k ∧ Hid (Arr wr w.heap.size 75 7 (Sm n s i k)) ∧ Below w.heap.size w wr) (fun j _ => n - (intOf j).toNat)
  case atStart => exact ⟨0, Nat.zero_le _, rfl, Blk.new w _ _, (Below.refl _ _).alloc (Nat.le_refl _) _⟩
  case round =>
    obtain ⟨k, hk, rfl, hA, hb⟩ := hrel
    have CR := HC.out.keep hb
    have HB := Lib.hid hb
    clear hb
    by_cases hkn : k < n
    · obtain ⟨_, _, r2, _, r4, _⟩ := CR.at_ (i := i) (by omega)
      obtain ⟨_, _, u2, _, u4, _⟩ := CR.at_ (i := k) (by omega)
      obtain ⟨a0, a1⟩ := hA.out.at_ (k := k) (by omega)
      by_cases hep : (s.nd k).ep = (s.nd i).ep
      · have HV := Lib.hid (show com (s.nd i).log (s.nd k).log = sm n s i k by unfold sm; rw [if_pos ⟨hkn, hep⟩])
        rw [hep] at u2
        obtain ⟨A, cp, hlv, hcp, hAc⟩ := CR.log (i := i) (by omega)
        obtain ⟨A', cp', hlv', hcp', hAc'⟩ := CR.log (i := k) (by omega)
        have hl := HC.out.l i (by omega)
        have hl' := HC.out.l k (by omega)
        have CC : Hid (∀ w' : World, Dn wr w' → Calls Try.prog 45 #[.slice A (s.nd i).log.length cp, .slice A' (s.nd k).log.length cp'] w' fun e w'' => e = .returned (.int .i64 ((sm n s i k : Nat) : Int)) ∧ Dn wr w'') := fun w' hd => by
          have hd0 := hd
          obtain ⟨q, rfl⟩ := hd
          refine (common_any (w := wr.drewN q) (c := cp) (c' := cp') hAc hAc' rfl rfl hl hl').mono ?_
          rintro e w2 ⟨rfl, h2⟩
          exact ⟨by rw [HV.out], hd0.on h2⟩
        rw [hlv] at r4
        rw [hlv'] at u4
        have HCR := Lib.hid CR
        clear CR hAc hAc' hlv hlv' hcp hcp' hl hl' hep
        obtain ⟨lf, hlf⟩ : ∃ q, q = (s.nd i).log.length := ⟨_, rfl⟩
        obtain ⟨lf', hlf'⟩ : ∃ q, q = (s.nd k).log.length := ⟨_, rfl⟩
        rw [← hlf] at r4 CC
        rw [← hlf'] at u4 CC
        clear hlf hlf'
        have hk7 : (k : Int) < 7 := by omega
        have hi7 : (i : Int) < 7 := by omega
        have hhn : h ≠ w.heap.size := by omega
        have HFIN : Hid (∀ w' : World, Dn wr w' → Arr (w'.setCell ⟨w.heap.size, k, none⟩ (.int .i64 ((sm n s i k : Nat) : Int))) w.heap.size 75 7 (Sm n s i (k + 1)) ∧ Below w.heap.size w (w'.setCell ⟨w.heap.size, k, none⟩ (.int .i64 ((sm n s i k : Nat) : Int)))) := fun w' hd => by
          obtain ⟨q, rfl⟩ := hd
          exact ⟨Arr.put (w := wr.drewN q) hA.out (Sm_put _ rfl), (below_drewN HB.out q).setCell (p := ⟨w.heap.size, k, none⟩) (Nat.le_refl _) _⟩
        go_wp2
        go_quiet (fail)
        go_wp2
        have D0 : Dn wr (wr.drewN nq).drew := (show Dn wr (wr.drewN nq) from ⟨nq, rfl⟩).on ⟨1, rfl⟩
        clear r2 u2
        go_region_held3 (fun w' => w'.cell? ⟨h, 1 + i * 5 + 4, none⟩ = some (.slice A lf cp) ∧ w'.cell? ⟨h, 1 + k * 5 + 4, none⟩ = some (.slice A' lf' cp'))
          (first
            | exact ⟨D0.cell r4, D0.cell u4⟩
            | exact ⟨D5.cell r4, D5.cell u4⟩
            | exact ⟨(World.cell?_setCell_other _ _ _ _ (by simp)).trans (D5.cell r4), (World.cell?_setCell_other _ _ _ _ (by simp)).trans (D5.cell u4)⟩)
          (first
            | (go_at_call 45; refine (CC.out _ (by first | assumption | exact D0)).mono ?_; rintro e w5 ⟨rfl, D5⟩; have b0 := D5.cell a0; have b1 := D5.frozen a1))
        all_goals
          obtain ⟨z1, z2⟩ := HFIN.out _ D5
          have Z1 := Lib.hid z1
          have Z2 := Lib.hid z2
          clear z1 z2 b0 b1
          go_wp2
          go_roundw
          case rel => exact ⟨k + 1, by omega, by go_num, Z1, Z2.out⟩
          case measure => simp [intOf]; omega
      · have HK := Lib.hid (Arr.congr hA.out (Sm_keep (show sm n s i k = 0 by unfold sm; rw [if_neg (fun x => hep x.2)])))
        have hne : (((s.nd k).ep : Int) == ((s.nd i).ep : Int)) = false := by simp; omega
        have hk7 : (k : Int) < 7 := by omega
        clear hep
        go_wp2
        go_quiet (fail)
        go_wp2
        go_roundw
        case rel => exact ⟨k + 1, by omega, by go_num, HK, below_drewN HB.out _⟩
        case measure => simp [intOf]; omega
    · obtain rfl : k = n := by omega
      clear CR
      have CW := HC.out.keep HB.out
      obtain ⟨_, _, r2, _, r4, _, r6⟩ := CW.at_ (i := i) (by omega)
      have hs1 := HB.out.size
      have hAE := Arr.congr hA.out (Sm_end (s := s) (i := i) hn7)
      obtain ⟨⟨a0, _⟩, ⟨a1, _⟩, ⟨a2, _⟩, ⟨a3, _⟩, ⟨a4, _⟩, ⟨a5, _⟩, ⟨a6, _⟩⟩ : _ ∧ _ ∧ _ ∧ _ ∧ _ ∧ _ ∧ _ := ⟨hAE.at_ (k := 0) (by omega), hAE.at_ (k := 1) (by omega), hAE.at_ (k := 2) (by omega), hAE.at_ (k := 3) (by omega), hAE.at_ (k := 4) (by omega), hAE.at_ (k := 5) (by omega), hAE.at_ (k := 6) (by omega)⟩
      obtain ⟨A, cp, hlv, hcp, hAc⟩ := CW.log (i := i) (by omega)
      obtain ⟨Ac, cc, hcv, hcc⟩ := own_slice CW.cow
      have hl := HC.out.l i (by omega)
      rw [hlv] at r4
      rw [hcv] at r6
      have HAC := Lib.hid hAc
      have HLV := Lib.hid hlv
      have HCW := Lib.hid CW
      have HT := Lib.hid (show upd k s i = if top k s i (s.nd i).log.length = 0 then s else ⟨s.nd, ((s.nd i).log.take (top k s i (s.nd i).log.length)).map Prod.snd⟩ from rfl)
      obtain ⟨L, hL⟩ : ∃ q, q = (s.nd i).log.length := ⟨_, rfl⟩
      obtain ⟨d, hd⟩ : ∃ q, q = s.done.length := ⟨_, rfl⟩
      rw [← hL] at r4 hcp hl HAC HT HLV
      rw [← hd] at r6
      have HL := Lib.hid hL
      have HD := Lib.hid hd
      have hi7 : (i : Int) < 7 := by omega
      clear hA hAE CW hAc hlv hcv hL hd
      obtain ⟨wo, rfl⟩ : ∃ wo : World, wo = wr := ⟨_, rfl⟩
      go_wp2
      go_step3
      go_wp2
      go_loopw [6, 7] (fun a b wq => ∃ m : Nat, m ≤ L ∧ a = .int .i64 0 ∧ b = .int .i64 m ∧ Hid (top k s i L = top k s i m) ∧ Dn wo wq) (fun _ b _ => (intOf b).toNat)
      case atStart => exact ⟨L, Nat.le_refl _, rfl, rfl, rfl, Dn.refl _⟩
      case round =>
        obtain ⟨m, hm, rfl, rfl, HTM, q, rfl⟩ := hrel
        by_cases hgt : d < m
        · obtain ⟨r, rfl⟩ : ∃ r, m = r + 1 := ⟨m - 1, by omega⟩
          obtain ⟨b, off, eA, hlt, hc⟩ := HAC.out (by omega)
          subst eA
          have c0 := (hc (r * 2) (by omega)).trans (by rw [(Ent_at _ _).1])
          have h6 : IntKind.i64.wrap (((r + 1 : Nat) : Int) - 1) = (r : Int) := by rw [show ((r + 1 : Nat) : Int) - 1 = (r : Int) by omega]; exact IntWalk.i64_in _ (by omega)
          clear hc
          by_cases he : ee (s.nd i).log r = (s.nd i).ep
          · have h7 : ((ee (s.nd i).log r : Int) != ((s.nd i).ep : Int)) = false := by simp; omega
            have HOK := Lib.hid (show okm k s i (r + 1) = decide (k < 2 * cnt (fun k' => decide (r + 1 ≤ sm k s i k')) 7) by unfold okm; rw [show r + 1 - 1 = r by omega, he]; simp)
            obtain ⟨P, hP⟩ : ∃ P : Nat → Bool, P = fun k' => decide (r + 1 ≤ sm k s i k') := ⟨_, rfl⟩
            have HP1 : Hid (∀ v, ¬ sm k s i v < r + 1 → P v = true) := fun v hv => by rw [hP]; simp; omega
            have HP0 : Hid (∀ v, sm k s i v < r + 1 → P v = false) := fun v hv => by rw [hP]; simp; omega
            rw [← hP] at HOK
            clear hP
            go_wp2
            go_quiet (fail)
            go_wp2
            have HCZ := Lib.hid (HCW.out.drewN (q + nq))
            have HAZ : Hid (Cells (wo.drewN (q + nq)) (some ⟨b, off, none⟩) (L * 2) (Ent (s.nd i).log)) := HAC.out
            have HBZ := Lib.hid (below_drewN HB.out (q + nq))
            have HDZ := Lib.hid (show Dn wo (wo.drewN (q + nq)) from ⟨q + nq, rfl⟩)
            generalize wo.drewN (q + nq) = wz at HCZ HAZ HBZ HDZ ⊢
            go_loopw [6, 8, 74] (fun n0 a b wq => ∃ v c : Nat, v ≤ 7 ∧ n0 = .int .i64 0 ∧ a = .int .i64 c ∧ b = .int .i64 v ∧ Hid (c = cnt P v) ∧ 2 * c ≤ k ∧ c ≤ 7 ∧ wq = wz) (fun _ _ b _ => 7 - (intOf b).toNat)
            case atStart => exact ⟨0, 0, Nat.zero_le _, rfl, rfl, rfl, rfl, Nat.zero_le _, Nat.zero_le _, rfl⟩
            case round =>
              obtain ⟨v, c, hv, rfl, rfl, rfl, HCC, h2c, hc7, hwq⟩ := hrel
              obtain rfl := hwq.symm
              obtain ⟨_, _, z2, _, z4, z0, z6⟩ := HCZ.out.at_ (i := i) (by omega)
              rw [HLV.out] at z4
              have z6f := (HCZ.out.blk.at_ (k := 36) (by omega)).2
              have hsz := HBZ.out.size
              by_cases hv7 : v < 7
              · have RI := fun w' : World => run_index7 w' (sm k s i) hv7
                by_cases hs : sm k s i v < r + 1
                · have hs' : ((sm k s i v : Nat) : Int) < ((r + 1 : Nat) : Int) := by omega
                  have HN := Lib.hid (HCC.out.trans (cnt_no P (HP0.out v hs)).symm)
                  go_wp2
                  go_roundw
                  case rel => exact ⟨v + 1, c, by omega, rfl, rfl, by go_num, HN, h2c, hc7, by first | rfl | trivial⟩
                  case measure => simp [intOf]; omega
                · have hs' : ¬ ((sm k s i v : Nat) : Int) < ((r + 1 : Nat) : Int) := by omega
                  have HN : Hid (c + 1 = cnt P (v + 1)) := by rw [cnt_up P (HP1.out v hs), ← HCC.out]; exact rfl
                  have hw1 : IntKind.i64.wrap ((c : Int) + 1) = (c : Int) + 1 := IntWalk.i64_in _ (by omega)
                  have hw2 : IntKind.i64.wrap (2 * ((c : Int) + 1)) = 2 * ((c : Int) + 1) := IntWalk.i64_in _ (by omega)
                  by_cases hx : k < 2 * (c + 1)
                  · have hx' : (k : Int) < 2 * ((c : Int) + 1) := by omega
                    have HF := Lib.hid (top_yes (n := k) (i := i) (show s.done.length < r + 1 by rw [← HD.out]; exact hgt) (by
                      rw [HOK.out]
                      have h1 := cnt_grow P (show v + 1 ≤ 7 by omega)
                      have h2 := HN.out
                      simp only [decide_eq_true_eq]; omega))
                    have hrl : r + 1 ≤ L := hm
                    have hrc : r + 1 ≤ cp := by omega
                    go_wp2_with fail
                    refine (texts_any (n := r + 1) (l := (s.nd i).log) (fun h0 => by
                      obtain ⟨b', off', e', hlt', hc'⟩ := HAZ.out (by omega)
                      exact ⟨b', off', e', hlt', fun j hj => hc' j (by omega)⟩) (by omega)).mono ?_
                    rintro e w4 ⟨v4, rfl, hv4, hb4⟩
                    obtain ⟨D4, c4, rfl, _⟩ := own_slice hv4
                    have HFZ := HCZ.out.keep hb4
                    have e36 := (HFZ.blk.at_ (k := 36) (by omega)).1
                    have f36 := (HFZ.blk.at_ (k := 36) (by omega)).2
                    obtain ⟨dd, hdd⟩ : ∃ dd, dd = ((s.nd i).log.take (r + 1)).map Prod.snd := ⟨_, rfl⟩
                    have hdl : dd.length = r + 1 := by rw [hdd, List.length_map, List.length_take, ← HL.out]; omega
                    have hv5 : w4.ownsRow B 9 1 (.slice D4 (r + 1) c4) dd.length (row (dd.length * 1) (Str dd)) := by
                      have ht := Tx_take (s.nd i).log (m := r + 1) (by rw [← HL.out]; omega)
                      rw [← hdd] at ht
                      rw [← ht, hdl]
                      exact own_base hv4 (by have := HC.out.hB; omega)
                    have HU := Lib.hid (show Upd B (w4.setCell ⟨h, 36, none⟩ (.slice D4 (r + 1) c4)) h k (upd k s i) lv by
                      rw [HT.out, HTM.out, HF.out, if_neg (by omega), ← hdd]
                      exact ⟨_, HFZ.fin hv5⟩)
                    have HG := Lib.hid (only_set (only_of (HBZ.out.trans (hb4.mono hsz)) h) 36 (.slice D4 (r + 1) c4))
                    have hz4 := hb4.size
                    clear hv4 hb4 HFZ hdd hdl hv5 z2 z4 z0 z6
                    go_wp2
                    try rw [Exit.noGoto_normal]
                    go_end0
                    exact ⟨rfl, HU.out, HG.out⟩
                  · have hx' : ¬ (k : Int) < 2 * ((c : Int) + 1) := by omega
                    go_wp2
                    go_roundw
                    case rel => exact ⟨v + 1, c + 1, by omega, rfl, by go_num, by go_num, HN, by omega, by omega, by first | rfl | trivial⟩
                    case measure => simp [intOf]; omega
              · obtain rfl : v = 7 := by omega
                have HF := Lib.hid (top_no (n := k) (i := i) (show s.done.length < r + 1 by rw [← HD.out]; exact hgt) (by
                  rw [HOK.out]
                  have h2 := HCC.out
                  simp only [decide_eq_false_iff_not]; omega))
                go_wp2
                go_roundw
                case rel => exact ⟨r, by omega, rfl, by go_num, HTM.out.trans HF.out, HDZ.out⟩
                case measure => simp [intOf]
          · have h7 : ((ee (s.nd i).log r : Int) != ((s.nd i).ep : Int)) = true := by simp; omega
            have HN := Lib.hid (top_no (show s.done.length < r + 1 by rw [← HD.out]; exact hgt) (show okm k s i (r + 1) = false by unfold okm; rw [show r + 1 - 1 = r by omega]; simp [he]))
            clear he
            go_wp2
            go_quiet (fail)
            go_wp2
            go_roundw
            case rel => exact ⟨r, by omega, rfl, by go_num, HTM.out.trans HN.out, ⟨q + nq, rfl⟩⟩
            case measure => simp [intOf]
        · have HN := Lib.hid (top_out (n := k) (i := i) (show ¬ s.done.length < m by rw [← HD.out]; exact hgt))
          have HU := Lib.hid (show Upd B (wo.drewN q) h k (upd k s i) lv by
            rw [HT.out, if_pos (by rw [HTM.out, HN.out])]
            exact ⟨_, HCW.out.drewN q⟩)
          have HG := Lib.hid (only_of (below_drewN HB.out q) h)
          go_wp2
          rw [Exit.noGoto_normal]
          go_end0
          exact ⟨rfl, HU.out, HG.out⟩
end Rp
end Go.Proofs.Ytdbpbpnbcjbchaa
