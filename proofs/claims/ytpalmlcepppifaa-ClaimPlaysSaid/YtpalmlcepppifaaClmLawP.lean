/- The walk of the law ClaimPlays. -/
import Derived.Test.YtpalmlcepppifaaClmSame3
set_option linter.unusedVariables false
namespace Go.Proofs.Ytpalmlcepppifaa
open Go.RowKit Go.Maps Go.ChangeShapes Go.WideElems Go.WideMaps

set_option maxHeartbeats 8000000 in
set_option maxRecDepth 100000 in
theorem claimPlays_walk (W : World) {D : Option Addr} {m c : Nat} {R : Nat → Ac} (hm : m ≤ c) (hc : c ≤ maxLen) (hD : Cells W D (m * 7) (Seven R)) (hs : ∀ i, i < m → (R i).nm.size ≤ maxLen) :
    Calls Try.prog 15 #[.slice D m c] W fun e w' => e = .returned (.bool true) ∧ Below W.heap.size W w' := by
  unfold maxLen at hc
  go_enter Try.func15, Try.ntmps15
  go_wp2_with fail
  refine (new_at W).mono ?_
  rintro e w1 ⟨h, rfl, ha⟩
  go_wp2_with fail
  refine (rnew_any w1 (fun _ => ea) (fun _ => 0) (fun _ => 0) (fun _ => 0) (fun _ => 0)).mono ?_
  rintro e w2 ⟨r, rfl, hr, hb2⟩
  have hr2 : Refs W.heap.size w2 r 0 (fun _ => ea) (fun _ => 0) (fun _ => 0) (fun _ => 0) (fun _ => 0) := by
    obtain ⟨v, rf⟩ := hr
    have hz := ha.size
    refine ⟨v, rf.blk, ?_, Nat.le_trans hz rf.hB, rf.n8, rf.st, rf.ss⟩
    refine ⟨rf.own.1, ?_⟩
    rcases rf.own.2 with hn | ⟨g, cap, cur, hv, hb, hg, h3⟩
    · exact .inl hn
    · exact .inr ⟨g, cap, cur, hv, Nat.le_trans hz hb, hg, h3⟩
  have HA := Lib.hid (show Both W w2 h r 0 (fun _ => ea) (fun _ => 0) (fun _ => 0) (fun _ => 0) (fun _ => 0) from ⟨ha.obj.keep hb2, hr2, Below.on ha.below hb2⟩)
  clear ha hr hb2 hr2
  go_wp2_with fail
  go_loopw [5] (fun i wr => ∃ (k n : Nat) (N : Nat → ByteArray) (A F E S : Nat → Int), k ≤ m ∧ k ≤ 60 ∧ n ≤ k ∧ i = .int .i64 k ∧ Both W wr h r n N A F E S) (fun i _ => m - (intOf i).toNat)
  case atStart => exact ⟨0, 0, _, _, _, _, _, Nat.zero_le _, Nat.zero_le _, Nat.le_refl _, rfl, HA.out⟩
  case round =>
    clear HA
    obtain ⟨k, n, N, A, F, E, S, hk, hk60, hnk, rfl, ha⟩ := hrel
    have HA := Lib.hid ha
    clear ha
    by_cases hkn : k < m ∧ k < 60
    · obtain ⟨hkm, hk6⟩ := hkn
      obtain ⟨b, off, rfl, hlt, p0, p1, p2, p3, p4, p5, p6⟩ := (hD.below HA.out.below).seven hkm
      obtain ⟨a, hae⟩ : ∃ a, a = R k := ⟨_, rfl⟩
      have hsz := hs k hkm
      rw [← hae] at p0 p1 p2 p3 p4 p5 p6 hsz
      have HSZ := Lib.hid hsz
      clear hae hsz
      go_wp2_with fail
      refine (short_any HSZ.out).mono ?_
      rintro e w3 ⟨rfl, hb3⟩
      replace HA := Lib.hid (HA.out.keep hb3)
      clear hb3 p0 p1 p2 p3 p4 p5 p6 hlt
      go_wp2_with fail
      refine (same_any (a := ⟨a.k, cut40 a.nm, a.am, a.fr, a.ex, a.at_, a.mo⟩) HA.out (by omega) (cut40_size _)).mono ?_
      rintro e w4 ⟨rfl, n', N', A', F', E', S', hn', hb⟩
      replace HA := Lib.hid hb
      clear hb
      go_wp2_with fail
      refine (copen_any HA.out.obj).mono ?_
      rintro e w5 ⟨rfl, rfl⟩
      go_wp2_with fail
      refine (ropen_any HA.out.ref).mono ?_
      rintro e w6 ⟨rfl, hb6⟩
      replace HA := Lib.hid (HA.out.keep hb6)
      clear hb6
      go_wp2_with fail
      refine (sum_any HA.out.obj).mono ?_
      rintro e w7 ⟨rfl, hb7⟩
      replace HA := Lib.hid (HA.out.keep hb7)
      clear hb7
      go_wp2_with fail
      refine (rsum44_any HA.out.ref).mono ?_
      rintro e w8 ⟨rfl, hb8⟩
      replace HA := Lib.hid (HA.out.keep hb8)
      clear hb8
      go_wp2
      go_roundw
      case rel => exact ⟨k + 1, n', N', A', F', E', S', by omega, by omega, by omega, by go_num, HA.out⟩
      case measure => simp [intOf] <;> omega
    · have hend : k = m ∨ (k = 60 ∧ 60 < m) := by omega
      clear hkn
      rcases hend with hend | ⟨hend, h60⟩
      all_goals
        subst hend
        go_wp2_with fail
        refine (works44 _).mono ?_
        rintro e w9 ⟨rfl, hb9⟩
        have HB := Lib.hid (Below.on HA.out.below hb9)
        clear hb9
        go_wp2
        go_ret
        exact ⟨rfl, HB.out⟩
end Go.Proofs.Ytpalmlcepppifaa
