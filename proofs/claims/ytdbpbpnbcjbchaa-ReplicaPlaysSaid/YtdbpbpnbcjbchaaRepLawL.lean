/- The walk of the law ReplicaLeads. -/
import Derived.Test.YtdbpbpnbcjbchaaRepLawO
set_option linter.unusedVariables false
namespace Go.Proofs.Ytdbpbpnbcjbchaa
open Go.RowKit
namespace Rp
theorem Tx_pre {a : List ByteArray} {l : Log} (h : a <+: l.map Prod.snd) : ∀ j, j < a.length → Tx l j = .string (a.getD j ByteArray.empty) := fun j hj => by
  have h1 := h.length_le
  rw [List.length_map] at h1
  obtain ⟨t, ht⟩ := h
  unfold Tx tt
  rw [List.getD_eq_getElem?_getD, List.getD_eq_getElem?_getD]
  have h2 : (l.map Prod.snd)[j]? = a[j]? := by rw [← ht, List.getElem?_append_left hj]
  rw [List.getElem?_map, List.getElem?_eq_getElem (show j < l.length by omega)] at h2
  rw [← h2, List.getElem?_eq_getElem (show j < l.length by omega)]
  rfl
set_option maxHeartbeats 8000000 in
set_option maxRecDepth 100000 in
theorem leads_u (W : World) {u : Nat} (hu : u < 256) {D : Option Addr} {m c : Nat} {R : Nat → Ac} (hm : m ≤ c) (hc : c ≤ maxLen) (hD : Cells W D (m * 4) (Four4 R)) (hs : ∀ i, i < m → (R i).t.size ≤ maxLen) :
    Calls Try.prog 8 #[.int .u8 (u : Int), .slice D m c] W fun e w' => e = .returned (.bool true) ∧ Below W.heap.size W w' := by
  unfold maxLen at hc
  have q1 : Int.tmod (u : Int) 7 = ((u % 7 : Nat) : Int) := by rw [Int.tmod_eq_emod_of_nonneg (by omega)]; omega
  obtain ⟨r, hr⟩ : ∃ r, r = u % 7 := ⟨_, rfl⟩
  rw [← hr] at q1
  have hr7 : r < 7 := by omega
  have q2 : IntKind.u8.wrap (r : Int) = (r : Int) := IntWalk.u8_in _ (by omega)
  have q3 : IntKind.i64.wrap (r : Int) = (r : Int) := IntWalk.i64_in _ (by omega)
  have q4 : IntKind.i64.wrap ((r : Int) + 1) = (r : Int) + 1 := IntWalk.i64_in _ (by omega)
  have HD := Lib.hid hD
  have HS := Lib.hid hs
  clear hD hs hr
  go_enter Try.func8, Try.ntmps8
  go_wp2_with fail
  refine (new_int W (n := r + 1) (by omega) (by omega) (by omega)).mono ?_
  rintro e w1 ⟨rfl, ha⟩
  have HA := Lib.hid ha
  clear ha
  go_wp2
  go_loopw [7, 8] (fun g i wr => ∃ (k e x : Nat) (s : St), k ≤ m ∧ k ≤ 80 ∧ g = .int .i64 x ∧ i = .int .i64 k ∧ x ≤ e ∧ Hid (At W wr W.heap.size (r + 1) s) ∧ Hid (Safe (r + 1) s e) ∧ Hid (Lim s k)) (fun _ i _ => m - (intOf i).toNat)
  case atStart => exact ⟨0, 0, 0, st0, Nat.zero_le _, Nat.zero_le _, rfl, rfl, Nat.le_refl _, HA, safe0 _, lim0⟩
  case round =>
    clear HA
    obtain ⟨k, e, x, s, hk, hk80, rfl, rfl, hxe, HA, HSF, HL⟩ := hrel
    by_cases hkn : k < m ∧ k < 80
    · obtain ⟨hkm, hk8⟩ := hkn
      obtain ⟨b, off, rfl, hlt, p0, p1, p2, p3⟩ := Cells.acts (HD.out.below HA.out.below) hkm
      obtain ⟨a, hae⟩ : ∃ a, a = R k := ⟨_, rfl⟩
      have HAE := Lib.hid hae
      have hsz := HS.out k hkm
      rw [← hae] at p0 p1 p2 p3 hsz
      have HSZ := Lib.hid hsz
      clear hae hsz
      have HSTP := Lib.hid (act_safe a HSF.out (by omega))
      go_wp2_with fail
      refine (do_any HA.out.obj HL.out (by omega) HSZ.out).mono ?_
      rintro e1 w2 ⟨rfl, hd⟩
      have HA2 := Lib.hid (HA.out.did hd)
      have HL2 := Lib.hid (lim_act (n := r + 1) (a := a) HL.out)
      obtain ⟨e2, he2, hsf2, hld⟩ := HSTP.out.safe
      have HLD := Lib.hid hld
      have HSF2 := Lib.hid hsf2
      have HAY : Hid (∃ y, y = (actO (r + 1) s a).2.1) := ⟨_, rfl⟩
      generalize (actO (r + 1) s a).1 = yy
      obtain ⟨b2, off2, ed2, hlt2, z0, z1, z2, z3⟩ := Cells.acts (HD.out.below HA2.out.below) hkm
      injection ed2 with ed2
      injection ed2 with ed2 ed3
      subst ed2 ed3
      rw [← HAE.out] at z0 z1 z2 z3
      obtain ⟨y, hy⟩ : ∃ y, y = (actO (r + 1) s a).2.1 := ⟨_, rfl⟩
      obtain ⟨s2, hs2⟩ : ∃ s2, s2 = (actO (r + 1) s a).2.2 := ⟨_, rfl⟩
      rw [← hs2] at HA2 HL2 HSF2
      rw [← hs2, ← hy] at HLD
      rw [← hy]
      clear hd hs2 hsf2 hld HAY hy HA p0 p1 p2 p3 hlt HSTP
      by_cases k0 : a.k = 0
      · have d0 : (a.k != 0) = false := by simp [k0]
        by_cases y0 : y = 0
        · subst y0
          obtain ⟨h1, h2, h3, h4⟩ := HLD.out k0 rfl
          obtain ⟨hx, hi⟩ := inr_yes h1
          obtain ⟨i, hie⟩ : ∃ i, i = a.x.toNat := ⟨_, rfl⟩
          rw [← hie] at hx hi h3 h4
          have HX := Lib.hid hx
          rw [hx] at z1
          have hdl0 : s2.done.length ≤ (s2.nd i).log.length := by have := h4.length_le; rw [List.length_map] at this; exact this
          have H4 := Lib.hid h4
          have H3 := Lib.hid h3
          have hd24 : s2.done.length ≤ 1024 := by have := HL2.out.done; omega
          have hl24 : (s2.nd i).log.length ≤ 1024 := by have := HL2.out.log i; omega
          clear h1 h3 h4 hie hx k0 HLD
          have D0 : At W w2.drew W.heap.size (r + 1) s2 := HA2.out.drawn (Dn.drew w2)
          have HCC : Hid (∀ w', At W w' W.heap.size (r + 1) s2 → w'.cell? ⟨b, off + k * 4 + 1, none⟩ = some (.int .i64 (i : Int)) → Calls Try.prog 14 #[.pointer (some ⟨W.heap.size, 0, none⟩)] w' fun e w'' => ∃ v, e = .returned v ∧ w''.ownsRow W.heap.size 9 1 v s2.done.length (row (s2.done.length * 1) (Str s2.done)) ∧ At W w'' W.heap.size (r + 1) s2 ∧ w''.cell? ⟨b, off + k * 4 + 1, none⟩ = some (.int .i64 (i : Int)) ∧ Below w'.heap.size w' w'') := fun w' ha hcl => by
            refine (comm_obj ha.obj hd24).mono ?_
            rintro e w3 ⟨v, rfl, hv, hb⟩
            exact ⟨v, rfl, own_base hv ha.size, ha.keep hb, (hb.cell (World.block_lt_of_cell? _ _ hcl)).trans hcl, hb⟩
          have HLG : Hid (∀ w', At W w' W.heap.size (r + 1) s2 → w'.cell? ⟨b, off + k * 4 + 1, none⟩ = some (.int .i64 (i : Int)) → Calls Try.prog 21 #[.pointer (some ⟨W.heap.size, 0, none⟩), .int .i64 (i : Int)] w' fun e w'' => ∃ v, e = .returned v ∧ w''.ownsRow W.heap.size 9 1 v (s2.nd i).log.length (row ((s2.nd i).log.length * 1) (Tx (s2.nd i).log)) ∧ At W w'' W.heap.size (r + 1) s2 ∧ w''.cell? ⟨b, off + k * 4 + 1, none⟩ = some (.int .i64 (i : Int)) ∧ Below w'.heap.size w' w'') := fun w' ha hcl => by
            refine (log_obj ha.obj hi).mono ?_
            rintro e w3 ⟨v, rfl, hv, hb⟩
            exact ⟨v, rfl, own_base hv ha.size, ha.keep hb, (hb.cell (World.block_lt_of_cell? _ _ hcl)).trans hcl, hb⟩
          have Z1 := Lib.hid z1
          have Z0 : w2.drew.cell? ⟨b, off + k * 4 + 1, none⟩ = some (.int .i64 (i : Int)) := z1
          go_wp2_with fail
          clear z0 z1 z2 z3
          go_region_held3 (fun w' => w'.cell? ⟨b, off + k * 4 + 1, none⟩ = some (.int .i64 (i : Int)) ∧ At W w' W.heap.size (r + 1) s2)
            (first
              | exact ⟨by assumption, by assumption⟩)
            (first
              | (go_at_call 14; refine (HCC.out _ (by assumption) (by assumption)).mono ?_; rintro e w5 ⟨v5, rfl, hv5, hA5, hz5, hb5⟩; (try have hv6' := own_keep hv6 hb5); obtain ⟨D5, c5, rfl, hc5⟩ := own_slice hv5)
              | (go_at_call 21; refine (HLG.out _ (by assumption) (by assumption)).mono ?_; rintro e w6 ⟨v6, rfl, hv6, hA6, hz6, hb6⟩; (try have hv5' := own_keep hv5 hb6); obtain ⟨D6, c6, rfl, hc6⟩ := own_slice hv6))
          have HA6 := Lib.hid hA6
          have HV5 := Lib.hid (Cells.of_own hv5')
          have HV6 := Lib.hid (Cells.less (Cells.of_own hv6) (show s2.done.length * 1 ≤ (s2.nd i).log.length * 1 by omega))
          clear hv5 hv5' hv6 hA5 hA6 hb5 hb6 hz5 D0 Z0
          have hdl : (((s2.nd i).log.length : Int) < (s2.done.length : Int)) = False := eq_false (by omega)
          have hcs : s2.done.length ≤ c6 := by omega
          have hep : ((e2 : Int) ≤ (x : Int)) = False := eq_false (by omega)
          have CE := epoch_obj HA6.out.obj hi
          rw [H3.out] at CE
          have HCE := Lib.hid CE
          clear CE
          go_wp2_with fail
          refine HCE.out.mono ?_
          rintro e7 w7 ⟨rfl, rfl⟩
          go_wp2_with fail
          refine (same_yes hd24 HV6.out HV5.out (Tx_pre H4.out) (Str_pre (List.prefix_refl _))).mono ?_
          rintro e8 w8 ⟨rfl, hd8⟩
          have HA8 := Lib.hid (HA6.out.drawn hd8)
          have hz8 := hd8.cell hz6
          have CE := epoch_obj HA8.out.obj hi
          rw [H3.out] at CE
          have HCE8 := Lib.hid CE
          clear CE hd8 hz6 HCE
          go_wp2_with fail
          refine HCE8.out.mono ?_
          rintro e9 w9 ⟨rfl, rfl⟩
          go_wp2
          go_roundw
          case rel => exact ⟨k + 1, e2, e2, s2, by omega, by omega, rfl, by go_num, Nat.le_refl _, HA8, HSF2, HL2⟩
          case measure => simp [intOf] <;> omega
        · have dy : ((y : Int) != 0) = true := by simp; omega
          go_wp2
          go_roundw
          case rel => exact ⟨k + 1, e2, x, s2, by omega, by omega, rfl, by go_num, by omega, HA2, HSF2, HL2⟩
          case measure => simp [intOf] <;> omega
      · have d0 : (a.k != 0) = true := by simp [k0]
        go_wp2
        go_roundw
        case rel => exact ⟨k + 1, e2, x, s2, by omega, by omega, rfl, by go_num, by omega, HA2, HSF2, HL2⟩
        case measure => simp [intOf] <;> omega
    · have hend : ¬ (k < m) ∨ (k < m ∧ ¬ (k < 80)) := by omega
      clear hkn
      rcases hend with hend | ⟨hend, h80⟩
      all_goals
        go_wp2_with fail
        refine (works51 _).mono ?_
        rintro e w9 ⟨rfl, hb9⟩
        have HB := Lib.hid (Below.on HA.out.below hb9)
        clear hb9
        go_wp2
        go_ret
        exact ⟨rfl, HB.out⟩
end Rp
theorem replicaLeads_walk (W : World) (x : Int) (hx : (Lit.int .u8 x).wf = true) {D : Option Addr} {m c : Nat} {R : Nat → Ac} (hm : m ≤ c) (hc : c ≤ maxLen) (hD : Cells W D (m * 4) (Four4 R)) (hs : ∀ i, i < m → (R i).t.size ≤ maxLen) :
    Calls Try.prog 8 #[.int .u8 x, .slice D m c] W fun e w' => e = .returned (.bool true) ∧ Below W.heap.size W w' := by
  obtain ⟨u, rfl, hu⟩ := Rp.u8_nat hx
  exact Rp.leads_u W hu hm hc hD hs
end Go.Proofs.Ytdbpbpnbcjbchaa
