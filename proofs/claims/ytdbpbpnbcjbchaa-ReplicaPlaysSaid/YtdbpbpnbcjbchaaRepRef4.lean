/- The reference's Fail, Restart, Cut, Join in the plain words; begins; Log; New. -/
import Derived.Test.YtdbpbpnbcjbchaaRepRef3
set_option linter.unusedVariables false
namespace Go.Proofs.Ytdbpbpnbcjbchaa
open Go.RowKit
theorem Try.infoNode : (Try.prog.info? 71).map (fun i => (i.zero, i.size, i.bytes)) = some (some (.agg #[.bool false, .bool false, .int .i64 0, .int .i64 0, .slice none 0 0]), 5, 48) := by kernel_rfl
namespace Rp
theorem RObj.same {B : Nat} {w : World} {h b n : Nat} {s : St} (o : RObj B w h b n s) : RDid B w w h b n s := ⟨o, Below.refl _ _, Kr.refl _⟩
section
variable {B : Nat} {w : World} {h b n : Nat} {s : St}
theorem rfail_turn (o : RObj B w h b n s) (x : Int) :
    Calls Try.prog 50 #[.pointer (some ⟨h, 0, none⟩), .int .i64 x, .bool false, .bool true] w fun e w' => e = .returned (.int .i64 ((failO n s x).1 : Int)) ∧ RDid B w w' h b n (failO n s x).2 := by
  obtain ⟨lv, cv, c⟩ := o
  unfold failO
  by_cases h0 : inr n x
  · rw [if_neg (fun q => q h0)]
    obtain ⟨hx, hi⟩ := inr_yes h0
    generalize x.toNat = i at hx hi ⊢
    subst hx
    cases h1 : (s.nd i).down with
    | true =>
      rw [if_pos rfl]
      exact (turn_down_t_no c hi h1).mono fun e w' ⟨h2, h3⟩ => ⟨h2, by subst h3; exact RObj.same ⟨_, _, c⟩⟩
    | false =>
      rw [if_neg (by simp)]
      exact turn_down_t_ok c hi h1
  · rw [if_pos h0]
    exact (turn_bad_false c (inr_no h0)).mono fun e w' ⟨h2, h3⟩ => ⟨h2, by subst h3; exact RObj.same ⟨_, _, c⟩⟩
set_option maxHeartbeats 1000000 in
theorem rfail_all (o : RObj B w h b n s) (x : Int) :
    Calls Try.prog 39 #[.pointer (some ⟨h, 0, none⟩), .int .i64 x] w fun e w' => e = .returned (.int .i64 ((failO n s x).1 : Int)) ∧ RDid B w w' h b n (failO n s x).2 := by
  have HT := Lib.hid (rfail_turn o x)
  clear o
  go_enter Try.func39, Try.ntmps39
  go_wp2_with fail
  refine HT.out.mono ?_
  rintro e w1 ⟨rfl, hd⟩
  have HD := Lib.hid hd
  clear hd
  go_wp2
  go_ret
  exact ⟨rfl, HD.out⟩
theorem rrestart_turn (o : RObj B w h b n s) (x : Int) (hdl : ∀ i, i < n → (s.nd i).down = true → (s.nd i).led = 0) :
    Calls Try.prog 50 #[.pointer (some ⟨h, 0, none⟩), .int .i64 x, .bool false, .bool false] w fun e w' => e = .returned (.int .i64 ((restartO n s x).1 : Int)) ∧ RDid B w w' h b n (restartO n s x).2 := by
  obtain ⟨lv, cv, c⟩ := o
  unfold restartO
  by_cases h0 : inr n x
  · rw [if_neg (fun q => q h0)]
    obtain ⟨hx, hi⟩ := inr_yes h0
    generalize x.toNat = i at hx hi ⊢
    subst hx
    cases h1 : (s.nd i).down with
    | false =>
      rw [if_pos rfl]
      exact (turn_down_f_no c hi h1).mono fun e w' ⟨h2, h3⟩ => ⟨h2, by subst h3; exact RObj.same ⟨_, _, c⟩⟩
    | true =>
      rw [if_neg (by simp)]
      have e : ({ s.nd i with down := false, led := 0 } : Nd) = { s.nd i with down := false } := by rw [← hdl i hi h1]
      rw [← e]
      exact turn_down_f_ok c hi h1
  · rw [if_pos h0]
    exact (turn_bad_false c (inr_no h0)).mono fun e w' ⟨h2, h3⟩ => ⟨h2, by subst h3; exact RObj.same ⟨_, _, c⟩⟩
set_option maxHeartbeats 1000000 in
theorem rrestart_all (o : RObj B w h b n s) (x : Int) (hdl : ∀ i, i < n → (s.nd i).down = true → (s.nd i).led = 0) :
    Calls Try.prog 40 #[.pointer (some ⟨h, 0, none⟩), .int .i64 x] w fun e w' => e = .returned (.int .i64 ((restartO n s x).1 : Int)) ∧ RDid B w w' h b n (restartO n s x).2 := by
  have HT := Lib.hid (rrestart_turn o x hdl)
  clear o hdl
  go_enter Try.func40, Try.ntmps40
  go_wp2_with fail
  refine HT.out.mono ?_
  rintro e w1 ⟨rfl, hd⟩
  have HD := Lib.hid hd
  clear hd
  go_wp2
  go_ret
  exact ⟨rfl, HD.out⟩
theorem rcut_turn (o : RObj B w h b n s) (x : Int) :
    Calls Try.prog 50 #[.pointer (some ⟨h, 0, none⟩), .int .i64 x, .bool true, .bool true] w fun e w' => e = .returned (.int .i64 ((cutO n s x).1 : Int)) ∧ RDid B w w' h b n (cutO n s x).2 := by
  obtain ⟨lv, cv, c⟩ := o
  unfold cutO
  by_cases h0 : inr n x
  · rw [if_neg (fun q => q h0)]
    obtain ⟨hx, hi⟩ := inr_yes h0
    generalize x.toNat = i at hx hi ⊢
    subst hx
    cases h1 : (s.nd i).cut with
    | true =>
      rw [if_pos rfl]
      exact (turn_cut_t_no c hi h1).mono fun e w' ⟨h2, h3⟩ => ⟨h2, by subst h3; exact RObj.same ⟨_, _, c⟩⟩
    | false =>
      rw [if_neg (by simp)]
      exact turn_cut_t_ok c hi h1
  · rw [if_pos h0]
    exact (turn_bad_true c (inr_no h0)).mono fun e w' ⟨h2, h3⟩ => ⟨h2, by subst h3; exact RObj.same ⟨_, _, c⟩⟩
set_option maxHeartbeats 1000000 in
theorem rcut_all (o : RObj B w h b n s) (x : Int) :
    Calls Try.prog 41 #[.pointer (some ⟨h, 0, none⟩), .int .i64 x] w fun e w' => e = .returned (.int .i64 ((cutO n s x).1 : Int)) ∧ RDid B w w' h b n (cutO n s x).2 := by
  have HT := Lib.hid (rcut_turn o x)
  clear o
  go_enter Try.func41, Try.ntmps41
  go_wp2_with fail
  refine HT.out.mono ?_
  rintro e w1 ⟨rfl, hd⟩
  have HD := Lib.hid hd
  clear hd
  go_wp2
  go_ret
  exact ⟨rfl, HD.out⟩
theorem rjoin_turn (o : RObj B w h b n s) (x : Int) :
    Calls Try.prog 50 #[.pointer (some ⟨h, 0, none⟩), .int .i64 x, .bool true, .bool false] w fun e w' => e = .returned (.int .i64 ((joinO n s x).1 : Int)) ∧ RDid B w w' h b n (joinO n s x).2 := by
  obtain ⟨lv, cv, c⟩ := o
  unfold joinO
  by_cases h0 : inr n x
  · rw [if_neg (fun q => q h0)]
    obtain ⟨hx, hi⟩ := inr_yes h0
    generalize x.toNat = i at hx hi ⊢
    subst hx
    cases h1 : (s.nd i).cut with
    | false =>
      rw [if_pos rfl]
      exact (turn_cut_f_no c hi h1).mono fun e w' ⟨h2, h3⟩ => ⟨h2, by subst h3; exact RObj.same ⟨_, _, c⟩⟩
    | true =>
      rw [if_neg (by simp)]
      exact turn_cut_f_ok c hi h1
  · rw [if_pos h0]
    exact (turn_bad_true c (inr_no h0)).mono fun e w' ⟨h2, h3⟩ => ⟨h2, by subst h3; exact RObj.same ⟨_, _, c⟩⟩
set_option maxHeartbeats 1000000 in
theorem rjoin_all (o : RObj B w h b n s) (x : Int) :
    Calls Try.prog 42 #[.pointer (some ⟨h, 0, none⟩), .int .i64 x] w fun e w' => e = .returned (.int .i64 ((joinO n s x).1 : Int)) ∧ RDid B w w' h b n (joinO n s x).2 := by
  have HT := Lib.hid (rjoin_turn o x)
  clear o
  go_enter Try.func42, Try.ntmps42
  go_wp2_with fail
  refine HT.out.mono ?_
  rintro e w1 ⟨rfl, hd⟩
  have HD := Lib.hid hd
  clear hd
  go_wp2
  go_ret
  exact ⟨rfl, HD.out⟩
end
theorem com_yes {a b : Log} {m : Nat} (h1 : m ≤ a.length) (h2 : m ≤ b.length) (h : Agree a b m) : m ≤ com a b := by
  refine com_ge a b m h1 h2 (List.ext_getElem? fun j => ?_)
  rw [List.getElem?_take, List.getElem?_take]
  split
  · rename_i hj
    have := h j hj
    unfold en at this
    rw [List.getD_eq_getElem?_getD, List.getD_eq_getElem?_getD, List.getElem?_eq_getElem (show j < a.length by omega), List.getElem?_eq_getElem (show j < b.length by omega)] at this
    simp only [Option.getD_some] at this
    rw [List.getElem?_eq_getElem (show j < a.length by omega), List.getElem?_eq_getElem (show j < b.length by omega), this]
  · rfl
theorem com_not {a b : Log} {k m : Nat} (hk : k < m) (h : ¬ (ee a k = ee b k ∧ tt a k = tt b k)) : ¬ m ≤ com a b := fun hm => by
  have h1 := com_take a b m hm
  have h2 := com_le a b
  have e : a[k]? = b[k]? := by
    have := congrArg (fun l => l[k]?) h1
    simpa [List.getElem?_take, hk] using this
  apply h
  unfold ee tt
  rw [List.getD_eq_getElem?_getD, List.getD_eq_getElem?_getD, e]
  exact ⟨rfl, rfl⟩
set_option maxHeartbeats 2000000 in
theorem rbegins_any {w : World} {A A' : Option Addr} {n c n' c' m : Nat} {l l' : Log} (hA : Cells w A (n * 2) (Ent l)) (hA' : Cells w A' (n' * 2) (Ent l')) (hl : l.length = n) (hl' : l'.length = n') (hn : n ≤ 1024) (hn' : n' ≤ 1024) (hm : m ≤ 1024) :
    Calls Try.prog 51 #[.slice A n c, .slice A' n' c', .int .i64 (m : Int)] w fun e w' => e = .returned (.bool (decide (m ≤ com l l'))) ∧ Dn w w' := by
  have HA := Lib.hid hA
  have HA' := Lib.hid hA'
  have HY := Lib.hid (fun (h1 : m ≤ n) (h2 : m ≤ n') (h : Agree l l' m) => com_yes (a := l) (b := l') (by omega) (by omega) h)
  have HL := Lib.hid (com_le l l')
  have HLN : Hid (com l l' ≤ n ∧ com l l' ≤ n') := by have := com_le l l'; rw [hl, hl'] at this; exact this
  clear hA hA' hl hl'
  go_enter Try.func51, Try.ntmps51
  by_cases h1 : n < m
  · have h1' : (n : Int) < (m : Int) := by omega
    have HF : Hid (decide (m ≤ com l l') = false) := decide_eq_false (by have := HLN.out.1; omega)
    go_wp2
    go_ret
    exact ⟨by rw [HF.out]; rfl, Dn.refl _⟩
  by_cases h2 : n' < m
  · have h1' : ¬ (n : Int) < (m : Int) := by omega
    have h2' : (n' : Int) < (m : Int) := by omega
    have HF : Hid (decide (m ≤ com l l') = false) := decide_eq_false (by have := HLN.out.2; omega)
    go_wp2
    go_ret
    exact ⟨by rw [HF.out]; rfl, Dn.refl _⟩
  have h1' : ¬ (n : Int) < (m : Int) := by omega
  have h2' : ¬ (n' : Int) < (m : Int) := by omega
  go_wp2
  go_loopw [7] (fun i wr => ∃ k : Nat, k ≤ m ∧ i = .int .i64 k ∧ Hid (Agree l l' k) ∧ ∃ q, wr = w.drewN q) (fun i _ => m - (intOf i).toNat)
  case atStart => exact ⟨0, Nat.zero_le _, rfl, fun j hj => absurd hj (by omega), 0, rfl⟩
  case round =>
    obtain ⟨k, hk, rfl, HG, q, rfl⟩ := hrel
    by_cases hkn : k < m
    · obtain ⟨b, off, e, hlt, hc⟩ := HA.out (by omega)
      obtain ⟨b', off', e', hlt', hc'⟩ := HA'.out (by omega)
      subst e
      subst e'
      have hc0 := (hc (k * 2) (by omega)).trans (by rw [(Ent_at _ _).1])
      have hc1 := (hc (k * 2 + 1) (by omega)).trans (by rw [(Ent_at _ _).2])
      rw [← Nat.add_assoc] at hc1
      have hd0 := (hc' (k * 2) (by omega)).trans (by rw [(Ent_at _ _).1])
      have hd1 := (hc' (k * 2 + 1) (by omega)).trans (by rw [(Ent_at _ _).2])
      rw [← Nat.add_assoc] at hd1
      have hkn2 : k < n := by omega
      have hkn3 : k < n' := by omega
      clear hc hc'
      go_wp2
      by_cases hE : (ee l k = ee l' k ∧ tt l k = tt l' k)
      · have q1 : ((ee l k : Int) == (ee l' k : Int)) = true := by simp [hE.1]
        have q2 : ((tt l k).toList == (tt l' k).toList) = true := by simp [hE.2]
        have HN := Lib.hid (HG.out.next hE)
        clear hE
        go_quiet (fail)
        go_wp2
        go_roundw
        case rel => exact ⟨k + 1, by omega, by go_num, HN, q + nq, by simp [World.drewN]⟩
        case measure => simp [intOf]; omega
      · have HF : Hid (decide (m ≤ com l l') = false) := decide_eq_false (com_not hkn hE)
        by_cases hE1 : ee l k = ee l' k
        · have q1 : ((ee l k : Int) == (ee l' k : Int)) = true := by simp [hE1]
          have q2 : ((tt l k).toList == (tt l' k).toList) = false := by
            exact beq_eq_false_iff_ne.2 fun e => hE ⟨hE1, toList_inj e⟩
          clear hE hE1
          go_quiet (fail)
          go_wp2
          go_ret
          exact ⟨by rw [HF.out]; rfl, q + nq, by simp [World.drewN, Nat.add_assoc]⟩
        · have q1 : ((ee l k : Int) == (ee l' k : Int)) = false := by simp; omega
          clear hE hE1
          go_quiet (fail)
          go_wp2
          go_ret
          exact ⟨by rw [HF.out]; rfl, q + nq, by simp [World.drewN, Nat.add_assoc]⟩
    · obtain rfl : k = m := by omega
      have HF : Hid (decide (k ≤ com l l') = true) := decide_eq_true (HY.out (by omega) (by omega) HG.out)
      go_wp2
      go_ret
      exact ⟨by rw [HF.out]; rfl, q, rfl⟩
section
variable {B : Nat} {w : World} {h b n : Nat} {s : St} {lv : Nat → Value} {cv : Value}
set_option maxHeartbeats 1000000 in
theorem rlog_bad (c : Rf B w h b n s lv cv) {x : Int} (hx : x < 0 ∨ (n : Int) ≤ x) :
    Calls Try.prog 26 #[.pointer (some ⟨h, 0, none⟩), .int .i64 x] w fun e w' => e = .returned (.slice none 0 0) ∧ w = w' := by
  have HC := Lib.hid c
  clear c
  go_enter Try.func26, Try.ntmps26
  go_wp2_with fail
  refine (rhas_no HC.out hx).mono ?_
  rintro e w1 ⟨rfl, rfl⟩
  go_wp2
  go_ret
  exact ⟨rfl, rfl⟩
set_option maxHeartbeats 2000000 in
theorem rlog_ok (c : Rf B w h b n s lv cv) {i : Nat} (hi : i < n) :
    Calls Try.prog 26 #[.pointer (some ⟨h, 0, none⟩), .int .i64 (i : Int)] w fun e w' => ∃ D c', e = .returned (.slice D (s.nd i).log.length c') ∧ Cells w' D ((s.nd i).log.length * 1) (Tx (s.nd i).log) ∧ Below w.heap.size w w' := by
  obtain ⟨i0, hj, hz0, hz1, hz2⟩ := info_parts Try.infoStr
  have hn7 := c.n7
  have hl := c.l i hi
  obtain ⟨A, cp, hlv, hcp, _⟩ := c.log hi
  have HC := Lib.hid c
  have HLV := Lib.hid hlv
  obtain ⟨m, hm⟩ : ∃ m, m = (s.nd i).log.length := ⟨_, rfl⟩
  have HM := Lib.hid hm
  rw [← hm] at hl hcp HLV ⊢
  clear c hlv hm
  go_enter Try.func26, Try.ntmps26
  go_wp2_with fail
  refine (rhas_yes HC.out hi).mono ?_
  rintro e w1 ⟨rfl, rfl⟩
  go_wp2
  go_loopw [5, 6] (fun v j wr => ∃ k : Nat, k ≤ m ∧ j = .int .i64 k ∧ wr.ownsRow w.heap.size 9 1 v k (row (k * 1) (Tx (s.nd i).log)) ∧ Below w.heap.size w wr) (fun _ j _ => m - (intOf j).toNat)
  case atStart => exact ⟨0, Nat.zero_le _, rfl, World.ownsRow_nil _ _ _ _, Below.refl _ _⟩
  case round =>
    obtain ⟨k, hk, rfl, hown, hbw⟩ := hrel
    have hszr := hbw.size
    have CR := HC.out.keep hbw
    obtain ⟨g0, _⟩ := CR.g0
    obtain ⟨_, _, _, _, p4⟩ := CR.at_ hi
    rw [HLV.out] at p4
    by_cases hkn : k < m
    · obtain ⟨A2, cp2, e2, _, hA2⟩ := CR.log hi
      rw [HLV.out, ← HM.out] at e2
      injection e2 with e2 _ _
      subst e2
      obtain ⟨bb, off, e, hlt, hc⟩ := hA2 (by rw [← HM.out]; omega)
      subst e
      have hc1 := (hc (k * 2 + 1) (by rw [← HM.out]; omega)).trans (by rw [(Ent_at _ _).2])
      rw [← Nat.add_assoc] at hc1
      have Hrow := Lib.hid (show row ((k + 1) * 1) (Tx (s.nd i).log) = row (k * 1) (Tx (s.nd i).log) ++ [.string (tt (s.nd i).log k)] by rw [Nat.mul_one, Nat.mul_one, row_one]; rfl)
      clear hc CR hA2
      go_wp2_with (at_builtin; refine wpList_append_own _ rfl _ _ 22 rfl w.heap.size 9 i0 (.string ByteArray.empty) 1 16 Try.underlying22 hj hz0 hz1 hz2 rfl (by decide) _ _ _ rfl (hown.alloc _) ⟨wr.heap.size, 0, none⟩ 1 1 [.string (tt (s.nd i).log k)] rfl rfl ?c1 ?c2 ?c3 ?c4 ?c5 ?_)
      try case c1 =>
        intro j u hj
        exact new_cell (by simp) (by simpa using hj)
      case c2 => first | rfl | (intro u hu; simp at hu; subst hu; rfl)
      case c3 => unfold maxLen; omega
      case c4 => omega
      case c5 => first | omega | (simp; omega)
      intro v' w3 hown' hgrow _
      have hb3 := own_below (hbw.alloc hszr _) (hown.alloc _) (by simp; omega) hgrow
      have hown3 : w3.ownsRow w.heap.size 9 1 v' (k + 1) (row ((k + 1) * 1) (Tx (s.nd i).log)) := by
        rw [Hrow.out, Nat.mul_one]
        exact hown'
      clear hown' hgrow hown hbw
      go_wp2
      go_roundw
      case rel => exact ⟨k + 1, by omega, by go_num, hown3, hb3⟩
      case measure => simp [intOf]; omega
    · obtain rfl : k = m := by omega
      obtain ⟨D', c', rfl, _⟩ := own_slice hown
      have HO := Lib.hid (Cells.of_own hown)
      have HB := Lib.hid hbw
      clear hown hbw CR
      go_wp2
      go_ret
      exact ⟨_, _, rfl, HO.out, HB.out⟩
end
end Rp
end Go.Proofs.Ytdbpbpnbcjbchaa
