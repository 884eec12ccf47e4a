/- The walk of the law ReplicaPlays. -/
import Derived.Test.YtdbpbpnbcjbchaaRepPlay
set_option linter.unusedVariables false
namespace Go.Proofs.Ytdbpbpnbcjbchaa
open Go.RowKit
namespace Rp
/-- Both objects in one state. -/
structure Ab (W w : World) (h hr b n : Nat) (s : St) : Prop where
  ours : Obj W.heap.size w h n s
  theirs : RObj W.heap.size w hr b n s
  below : Below W.heap.size W w
section
variable {W w w' : World} {h hr b n q : Nat} {s s' : St} {cs : Array Value}
theorem Ab.keep (a : Ab W w h hr b n s) (k : Below w.heap.size w w') : Ab W w' h hr b n s := ⟨(a.ours.keep k).obj, a.theirs.keep k, a.below.trans (a.ours.keep k).below⟩
theorem Ab.drawn (a : Ab W w h hr b n s) (k : Dn w w') : Ab W w' h hr b n s := by
  obtain ⟨q, rfl⟩ := k
  exact a.keep (below_drewN (Below.refl _ _) q)
theorem Ab.act (a : Ab W w h hr b n s) (t : Bth W.heap.size w w' h hr b n s' s' q cs) : Ab W w' h hr b n s' := ⟨t.ours, t.theirs, a.below.trans t.below⟩
end
def epO (n : Nat) (s : St) (x : Int) : Nat := if inr n x then (s.nd x.toNat).ep else 0
def loO (n : Nat) (s : St) (x : Int) : Log := if inr n x then (s.nd x.toNat).log else []
theorem epoch_all {B : Nat} {w : World} {h n : Nat} {s : St} (o : Obj B w h n s) (x : Int) :
    Calls Try.prog 20 #[.pointer (some ⟨h, 0, none⟩), .int .i64 x] w fun e w' => e = .returned (.int .i64 (epO n s x : Int)) ∧ w = w' := by
  obtain ⟨lv, cv, c⟩ := o
  unfold epO
  by_cases h0 : inr n x
  · rw [if_pos h0]
    obtain ⟨hx, hi⟩ := inr_yes h0
    exact epoch_ok c hx hi
  · rw [if_neg h0]
    exact epoch_bad c (inr_no h0)
theorem repoch_all {B : Nat} {w : World} {h b n : Nat} {s : St} (o : RObj B w h b n s) (x : Int) :
    Calls Try.prog 25 #[.pointer (some ⟨h, 0, none⟩), .int .i64 x] w fun e w' => e = .returned (.int .i64 (epO n s x : Int)) ∧ w = w' := by
  obtain ⟨lv, cv, c⟩ := o
  unfold epO
  by_cases h0 : inr n x
  · rw [if_pos h0]
    obtain ⟨hx, hi⟩ := inr_yes h0
    generalize x.toNat = i at hx hi ⊢
    subst hx
    exact repoch_ok c hi
  · rw [if_neg h0]
    exact repoch_bad c (inr_no h0)
theorem log_all {B : Nat} {w : World} {h n : Nat} {s : St} (o : Obj B w h n s) (x : Int) :
    Calls Try.prog 21 #[.pointer (some ⟨h, 0, none⟩), .int .i64 x] w fun e w' => ∃ D c, e = .returned (.slice D (loO n s x).length c) ∧ Cells w' D ((loO n s x).length * 1) (Tx (loO n s x)) ∧ Below w.heap.size w w' := by
  obtain ⟨lv, cv, c⟩ := o
  unfold loO
  by_cases h0 : inr n x
  · rw [if_pos h0]
    obtain ⟨hx, hi⟩ := inr_yes h0
    generalize x.toNat = i at hx hi ⊢
    subst hx
    refine (log_ok c hi).mono ?_
    rintro e w' ⟨v, rfl, hv, hb⟩
    obtain ⟨D, k, rfl, _⟩ := own_slice hv
    exact ⟨D, k, rfl, Cells.of_own hv, hb⟩
  · rw [if_neg h0]
    refine (log_bad c (inr_no h0)).mono ?_
    rintro e w' ⟨rfl, rfl⟩
    exact ⟨none, 0, rfl, Cells.nil, Below.refl _ _⟩
theorem rlog_all {B : Nat} {w : World} {h b n : Nat} {s : St} (o : RObj B w h b n s) (x : Int) :
    Calls Try.prog 26 #[.pointer (some ⟨h, 0, none⟩), .int .i64 x] w fun e w' => ∃ D c, e = .returned (.slice D (loO n s x).length c) ∧ Cells w' D ((loO n s x).length * 1) (Tx (loO n s x)) ∧ Below w.heap.size w w' := by
  obtain ⟨lv, cv, c⟩ := o
  unfold loO
  by_cases h0 : inr n x
  · rw [if_pos h0]
    obtain ⟨hx, hi⟩ := inr_yes h0
    generalize x.toNat = i at hx hi ⊢
    subst hx
    exact rlog_ok c hi
  · rw [if_neg h0]
    refine (rlog_bad c (inr_no h0)).mono ?_
    rintro e w' ⟨rfl, rfl⟩
    exact ⟨none, 0, rfl, Cells.nil, Below.refl _ _⟩
theorem rcomm_obj {B : Nat} {w : World} {h b n : Nat} {s : St} (o : RObj B w h b n s) (hs : s.done.length ≤ 1024) :
    Calls Try.prog 24 #[.pointer (some ⟨h, 0, none⟩)] w fun e w' => ∃ D c', e = .returned (.slice D s.done.length c') ∧ Cells w' D (s.done.length * 1) (Str s.done) ∧ Below w.heap.size w w' := by
  obtain ⟨lv, cv, c⟩ := o
  exact rcomm_any c hs
theorem loO_len {n K : Nat} {s : St} (h : Lim s K) (x : Int) : (loO n s x).length ≤ K := by
  unfold loO
  split
  · exact h.log _
  · exact Nat.zero_le _
theorem rnew_at (W w : World) (hW : Below W.heap.size W w) {h n : Nat} (o : Obj W.heap.size w h n st0) (h1 : 1 ≤ n) (h7 : n ≤ 7) :
    Calls Try.prog 22 #[.int .i64 (n : Int)] w fun e w' => ∃ hr b, e = .returned (.tuple #[.pointer (some ⟨hr, 0, none⟩), .int .i64 0]) ∧ Ab W w' h hr b n st0 :=
  (rnew_ok w h1 h7).mono fun e w' ⟨hr, b, h2, h3, h4⟩ => ⟨hr, b, h2, (o.keep h4).obj, h3.base hW.size, hW.trans (o.keep h4).below⟩
set_option maxHeartbeats 4000000 in
theorem plays_bad (W : World) {x : Int} (hx : x < 1 ∨ 7 < x) {v : Value} :
    Calls Try.prog 7 #[.int .i64 x, v] W fun e w' => e = .returned (.bool true) ∧ Below W.heap.size W w' := by
  have HX := Lib.hid hx
  clear hx
  go_enter Try.func7, Try.ntmps7
  go_wp2_with fail
  refine (new_bad W HX.out).mono ?_
  rintro e w1 ⟨rfl, rfl⟩
  go_wp2_with fail
  refine (rnew_bad W HX.out).mono ?_
  rintro e w1 ⟨rfl, rfl⟩
  go_wp2_with fail
  refine (works51 _).mono ?_
  rintro e w9 ⟨rfl, hb9⟩
  have HB := Lib.hid hb9
  clear hb9
  go_wp2
  go_ret
  exact ⟨rfl, HB.out⟩
set_option maxHeartbeats 8000000 in
set_option maxRecDepth 100000 in
theorem plays_ok (W : World) {n : Nat} (hn1 : 1 ≤ n) (hn7 : n ≤ 7) {D : Option Addr} {m c : Nat} {R : Nat → Ac} (hm : m ≤ c) (hc : c ≤ maxLen) (hD : Cells W D (m * 4) (Four4 R)) (hs : ∀ i, i < m → (R i).t.size ≤ maxLen) :
    Calls Try.prog 7 #[.int .i64 (n : Int), .slice D m c] W fun e w' => e = .returned (.bool true) ∧ Below W.heap.size W w' := by
  unfold maxLen at hc
  have HD := Lib.hid hD
  have HS := Lib.hid hs
  clear hD hs
  go_enter Try.func7, Try.ntmps7
  go_wp2_with fail
  refine (new_at W hn1 hn7).mono ?_
  rintro e w1 ⟨rfl, ha⟩
  have HA := Lib.hid ha
  clear ha
  go_wp2_with fail
  refine (rnew_at W w1 HA.out.below HA.out.obj hn1 hn7).mono ?_
  rintro e w2 ⟨hr, b, rfl, hab⟩
  have HAB := Lib.hid hab
  clear hab HA
  go_wp2
  go_loopw [9] (fun i wr => ∃ (k : Nat) (s : St), k ≤ m ∧ k ≤ 60 ∧ i = .int .i64 k ∧ Hid (Ab W wr W.heap.size hr b n s) ∧ Hid (Lim s k) ∧ Hid (Dl s)) (fun i _ => m - (intOf i).toNat)
  case atStart => exact ⟨0, st0, Nat.zero_le _, Nat.zero_le _, rfl, HAB, lim0, dl0⟩
  case round =>
    clear HAB
    obtain ⟨k, s, hk, hk60, rfl, HA, HL, HDL⟩ := hrel
    by_cases hkn : k < m ∧ k < 60
    · obtain ⟨hkm, hk8⟩ := hkn
      obtain ⟨bq, off, rfl, hlt, p0, p1, p2, p3⟩ := Cells.acts (HD.out.below HA.out.below) hkm
      obtain ⟨a, hae⟩ : ∃ a, a = R k := ⟨_, rfl⟩
      have hsz := HS.out k hkm
      rw [← hae] at p0 p1 p2 p3 hsz
      have HSZ := Lib.hid hsz
      clear hae hsz
      go_wp2_with fail
      (with_reducible refine (play_any HA.out.ours HA.out.theirs HL.out (by omega) HDL.out HSZ.out).mono ?_)
      rintro e1 w2 ⟨rfl, cs, ht⟩
      have HA2 := Lib.hid (HA.out.act ht)
      have HL2 := Lib.hid (lim_act (n := n) (a := a) HL.out)
      have HDL2 := Lib.hid (Dl.act (n := n) (a := a) HDL.out)
      obtain ⟨s2, hs2⟩ : ∃ s2, s2 = (actO n s a).2.2 := ⟨_, rfl⟩
      rw [← hs2] at HA2 HL2 HDL2
      have hd24 : s2.done.length ≤ 1024 := by have := HL2.out.done; omega
      clear ht hs2 HA p0 p1 p2 p3 hlt
      go_wp2_with fail
      refine (comm_obj HA2.out.ours hd24).mono ?_
      rintro e3 w3 ⟨v, rfl, hv, hb⟩
      have HA3 := Lib.hid (HA2.out.keep hb)
      obtain ⟨Dv, cv, rfl, hcv⟩ := own_slice hv
      have HCV := Lib.hid (Cells.of_own hv)
      clear hv hb HA2
      go_wp2_with fail
      refine (rcomm_obj HA3.out.theirs hd24).mono ?_
      rintro e3 w4 ⟨Dw, cw, rfl, hcw, hb⟩
      have HA4 := Lib.hid (HA3.out.keep hb)
      have HCW := Lib.hid hcw
      have HCV4 := Lib.hid (HCV.out.below hb)
      clear hcw hb HA3 HCV
      go_wp2_with fail
      refine (same_yes hd24 HCV4.out HCW.out (Str_pre (List.prefix_refl _)) (Str_pre (List.prefix_refl _))).mono ?_
      rintro e4 w5 ⟨rfl, hd4⟩
      have HA5 := Lib.hid (HA4.out.drawn hd4)
      clear hd4 HA4 HCW HCV4
      go_wp2
      go_loopw [10] (fun j wx => ∃ x : Int, -1 ≤ x ∧ x ≤ (n : Int) + 1 ∧ j = .int .i64 x ∧ Hid (Ab W wx W.heap.size hr b n s2)) (fun j _ => (20 - intOf j).toNat)
      case atStart => exact ⟨-1, by omega, by omega, rfl, HA5⟩
      case round =>
        clear HA5
        obtain ⟨x, hx0, hx1, rfl, HA⟩ := hrel
        by_cases hxn : x ≤ (n : Int)
        · obtain ⟨ep, hep⟩ : ∃ z, z = epO n s2 x := ⟨_, rfl⟩
          have HCE := Lib.hid (epoch_all HA.out.ours x)
          have HCR := Lib.hid (repoch_all HA.out.theirs x)
          rw [← hep] at HCE HCR
          obtain ⟨l, hl⟩ : ∃ z, z = loO n s2 x := ⟨_, rfl⟩
          have hl24 := loO_len (n := n) HL2.out x
          have HCL := Lib.hid (log_all HA.out.ours x)
          have HRL := Lib.hid (fun (w' : World) (t : Below wr.heap.size wr w') => rlog_all (HA.out.keep t).theirs x)
          rw [← hl] at HCL HRL hl24
          have hl1 : l.length ≤ 1024 := by omega
          obtain ⟨L, hLL⟩ : ∃ L, L = l.length := ⟨_, rfl⟩
          rw [← hLL] at HCL HRL hl1
          have hww : IntKind.i64.wrap (x + 1) = x + 1 := IntWalk.i64_in _ (by omega)
          have hne : ((ep : Int) != (ep : Int)) = false := by simp
          clear hep hl hl24 hLL
          go_wp2_with fail
          refine HCE.out.mono ?_
          rintro e w1 ⟨rfl, rfl⟩
          go_wp2_with fail
          refine HCR.out.mono ?_
          rintro e w1 ⟨rfl, rfl⟩
          go_wp2_with fail
          refine HCL.out.mono ?_
          rintro e w6 ⟨D6, c6, rfl, h6, b6⟩
          have H6 := Lib.hid h6
          have HB6 := Lib.hid b6
          clear h6 b6
          go_wp2_with fail
          refine (HRL.out _ HB6.out).mono ?_
          rintro e w7 ⟨D7, c7, rfl, h7, b7⟩
          have H7 := Lib.hid h7
          have HB7 := Lib.hid (Below.on HB6.out b7)
          have H67 := Lib.hid (H6.out.below b7)
          clear h7 b7
          go_wp2_with fail
          refine (same_yes (f := fun j => tt l j) hl1 H67.out H7.out (fun j _ => rfl) (fun j _ => rfl)).mono ?_
          rintro e w8 ⟨rfl, hd8⟩
          have HA8 := Lib.hid ((HA.out.keep HB7.out).drawn hd8)
          clear hd8
          go_wp2
          go_roundw
          case rel => exact ⟨x + 1, by omega, by omega, by go_num, HA8⟩
          case measure => simp [intOf]; omega
        · go_wp2
          go_roundw
          case rel => exact ⟨k + 1, s2, by omega, by omega, by go_num, HA, HL2, HDL2⟩
          case measure => simp [intOf] <;> omega
    · have hend : ¬ (k < m) ∨ (k < m ∧ ¬ (k < 60)) := by omega
      clear hkn
      rcases hend with hend | ⟨hend, h80⟩
      all_goals
        go_wp2_with fail
        refine (works51 _).mono ?_
        rintro e w9 ⟨rfl, hb9⟩
        have HB := Lib.hid (Below.on HA.out.below hb9)
        clear hb9
        go_wp2
        go_ret
        exact ⟨rfl, HB.out⟩
end Rp
theorem replicaPlays_walk (W : World) (x : Int) (hx : (Lit.int .i64 x).wf = true) {D : Option Addr} {m c : Nat} {R : Nat → Ac} (hm : m ≤ c) (hc : c ≤ maxLen) (hD : Cells W D (m * 4) (Four4 R)) (hs : ∀ i, i < m → (R i).t.size ≤ maxLen) :
    Calls Try.prog 7 #[.int .i64 x, .slice D m c] W fun e w' => e = .returned (.bool true) ∧ Below W.heap.size W w' := by
  by_cases h : 1 ≤ x ∧ x ≤ 7
  · obtain ⟨n, rfl⟩ : ∃ n : Nat, x = (n : Int) := ⟨x.toNat, by omega⟩
    exact Rp.plays_ok W (by omega) (by omega) hm hc hD hs
  · exact Rp.plays_bad W (by omega)
end Go.Proofs.Ytdbpbpnbcjbchaa
