/- The walks of payout.Exact (with its closure) and of its reference. -/
import Derived.Test.YtjifpiaianmmbaaPayWorks
set_option linter.unusedVariables false
namespace Go.Proofs.Ytjifpiaianmmbaa
open Go.RowKit
namespace Ex
def ok (x : Int) : Bool := decide (0 ≤ x) && decide (x ≤ 1000000000000)
def vv (g t : Int) (O : Nat → Int) : Nat → Bool
  | 0 => ok g && ok t
  | k + 1 => vv g t O k && ok (O k)
def sv (t : Int) (O : Nat → Int) : Nat → Int
  | 0 => if ok t = true then t else 0
  | k + 1 => if ok (O k) = true then sv t O k + O k else sv t O k
theorem ok_yes {x : Int} (h0 : 0 ≤ x) (h1 : x ≤ 1000000000000) : ok x = true := by unfold ok; simp [h0, h1]
theorem ok_no {x : Int} (h : x < 0 ∨ 1000000000000 < x) : ok x = false := by
  cases e : ok x with
  | false => rfl
  | true => unfold ok at e; simp only [Bool.and_eq_true, decide_eq_true_eq] at e; omega
theorem ok_gives {x : Int} (h : ok x = true) : 0 ≤ x ∧ x ≤ 1000000000000 := by
  unfold ok at h; simp only [Bool.and_eq_true, decide_eq_true_eq] at h; exact h
theorem sv_bounds (t : Int) (O : Nat → Int) : ∀ k : Nat, 0 ≤ sv t O k ∧ sv t O k ≤ 1000000000000 * ((k : Int) + 1) := by
  intro k
  induction k with
  | zero =>
    simp only [sv]
    split
    · have := ok_gives (by assumption); omega
    · omega
  | succ k ih =>
    simp only [sv]
    split
    · have := ok_gives (by assumption); omega
    · omega
/-- What Exact answers. -/
def exact (g t : Int) (n : Nat) (O : Nat → Int) (l : Int) : Bool :=
  decide (n ≤ 16) && (vv g t O n && ok l) && (sv t O n + l == g)
theorem vv_of {g t : Int} {O : Nat → Int} {n : Nat} (h : vv g t O n = true) : ok g = true ∧ ok t = true ∧ ∀ k, k < n → ok (O k) = true := by
  induction n with
  | zero =>
    simp only [vv, Bool.and_eq_true] at h
    exact ⟨h.1, h.2, fun k hk => absurd hk (by omega)⟩
  | succ n ih =>
    simp only [vv, Bool.and_eq_true] at h
    have h1 := ih h.1
    refine ⟨h1.1, h1.2.1, fun k hk => ?_⟩
    by_cases e : k = n
    · subst e; exact h.2
    · exact h1.2.2 k (by omega)
theorem vv_no {g t : Int} {O : Nat → Int} {n k : Nat} (hk : k < n) (h : ok (O k) = false) : vv g t O n = false := by
  cases e : vv g t O n with
  | false => rfl
  | true => rw [(vv_of e).2.2 k hk] at h; cases h
theorem vv_g {g t : Int} {O : Nat → Int} {n : Nat} (h : ok g = false) : vv g t O n = false := by
  cases e : vv g t O n with
  | false => rfl
  | true => rw [(vv_of e).1] at h; cases h
theorem vv_t {g t : Int} {O : Nat → Int} {n : Nat} (h : ok t = false) : vv g t O n = false := by
  cases e : vv g t O n with
  | false => rfl
  | true => rw [(vv_of e).2.1] at h; cases h
theorem exact_big {g t : Int} {n : Nat} {O : Nat → Int} {l : Int} (h : 16 < n) : exact g t n O l = false := by
  unfold exact; rw [show decide (n ≤ 16) = false from decide_eq_false (by omega)]; rfl
theorem exact_bad {g t : Int} {n : Nat} {O : Nat → Int} {l : Int} (h : (vv g t O n && ok l) = false) : exact g t n O l = false := by
  unfold exact; rw [h, Bool.and_false]; rfl
theorem exact_good {g t : Int} {n : Nat} {O : Nat → Int} {l : Int} (h : n ≤ 16) (h1 : (vv g t O n && ok l) = true) : exact g t n O l = (sv t O n + l == g) := by
  unfold exact; rw [h1, show decide (n ≤ 16) = true from decide_eq_true h]; rfl
end Ex

/-- The closure's step: an amount is added. -/
theorem add_yes (gv gs : Nat) (a s : Int) (v : Bool) (w : World) (hv : Blk w gv 4 #[.bool v]) (hs : Blk w gs 3 #[.int .i64 s]) (h0 : 0 ≤ a) (h1 : a ≤ 1000000000000) (h2 : 0 ≤ s) (h3 : s ≤ 100000000000000) :
    Calls Try.prog 24 #[.int .i64 a, .pointer (some ⟨gv, 0, none⟩), .pointer (some ⟨gs, 0, none⟩)] w fun e w' =>
      e = .returned (.tuple #[]) ∧ Blk w' gs 3 #[.int .i64 (s + a)] ∧ w.grownBy w' (some gs) := by
  have hc := hs.cell 0
  have hf := hs.frozen 0
  have hcs : w.cell? ⟨gs, 0, none⟩ = some (.int .i64 s) := hc
  have HS := Lib.hid hs
  have HV := Lib.hid hv
  clear hs hv hc
  go_enter Try.func24, Try.ntmps24
  go_wp2_with fail
  refine (valid_yes _ _ h0 h1).mono ?_
  rintro e w1 ⟨rfl, rfl⟩
  go_wp2
  go_end0
  exact ⟨rfl, HS.out.set_ 0 _, only_set (only_refl _ _) 0 _⟩
theorem add_no (gv gs : Nat) (a s : Int) (v : Bool) (w : World) (hv : Blk w gv 4 #[.bool v]) (hs : Blk w gs 3 #[.int .i64 s]) (h0 : a < 0 ∨ 1000000000000 < a) :
    Calls Try.prog 24 #[.int .i64 a, .pointer (some ⟨gv, 0, none⟩), .pointer (some ⟨gs, 0, none⟩)] w fun e w' =>
      e = .returned (.tuple #[]) ∧ Blk w' gv 4 #[.bool false] ∧ w.grownBy w' (some gv) := by
  have hc := hv.cell 0
  have hf := hv.frozen 0
  have hcs : w.cell? ⟨gv, 0, none⟩ = some (.bool v) := hc
  have HS := Lib.hid hs
  have HV := Lib.hid hv
  have H0 := Lib.hid h0
  clear hs hv hc h0
  go_enter Try.func24, Try.ntmps24
  go_wp2_with fail
  refine (valid_no _ _ H0.out).mono ?_
  rintro e w1 ⟨rfl, rfl⟩
  go_wp2
  refine bodyPost_ret (results_none rfl _ _ _) rfl ?_
  exact ⟨rfl, HV.out.set_ 0 _, only_set (only_refl _ _) 0 _⟩
end Go.Proofs.Ytjifpiaianmmbaa
namespace Go.Proofs.Ytjifpiaianmmbaa
open Go.RowKit
set_option maxHeartbeats 2000000 in
set_option maxRecDepth 100000 in
theorem exact_any {D : Option Addr} {n c : Nat} {g t l : Int} {O : Nat → Int} {w : World} (hn : n ≤ 9223372036854775807) (hD : Cells w D (n * 1) (Ints O)) :
    Calls Try.prog 14 #[order g t D n c l] w fun e w' => e = .returned (.bool (Ex.exact g t n O l)) ∧ Below w.heap.size w w' := by
  have hmf : ∀ (fn : Fn) (first cap : Array Value) (w : World), (Instr.makeFunc fn first cap).run Try.prog w = .ok (.func fn first cap) w := fun _ _ _ _ => rfl
  unfold order
  by_cases hb : 16 < n
  · have H := Lib.hid (Ex.exact_big (g := g) (t := t) (O := O) (l := l) hb)
    have hb0 := (Below.refl w.heap.size w).alloc (Nat.le_refl _) (.cells #[.int .i64 g, .int .i64 t, .slice D n c, .int .i64 l] 27)
    go_enter Try.func14, Try.ntmps14
    go_wp2
    go_ret
    exact ⟨ret_bool H.out.symm, hb0⟩
  · obtain ⟨vg, hvg⟩ : ∃ v, v = Ex.ok g := ⟨_, rfl⟩
    have Hvg := Lib.hid hvg
    clear hvg
    go_enter Try.func14, Try.ntmps14
    go_wp2_with fail
    refine (valid_any g _).mono ?_
    rintro e w1 ⟨rfl, rfl⟩
    rw [show (decide (0 ≤ g) && decide (g ≤ 1000000000000)) = vg from Hvg.out.symm]
    go_wp2_with fail
    have hb0 := (((Below.refl w.heap.size w).alloc (Nat.le_refl _) (.cells #[.int .i64 g, .int .i64 t, .slice D n c, .int .i64 l] 27)).alloc (by simp) (.cells #[.int .i64 0] 3)).alloc (by simp; omega) (.cells #[.bool vg] 4)
    have ho0 : Blk (((w.alloc (.cells #[.int .i64 g, .int .i64 t, .slice D n c, .int .i64 l] 27)).alloc (.cells #[.int .i64 0] 3)).alloc (.cells #[.bool vg] 4)) w.heap.size 27 #[.int .i64 g, .int .i64 t, .slice D n c, .int .i64 l] := ((Blk.new w _ _).alloc _).alloc _
    have hs0 : Blk (((w.alloc (.cells #[.int .i64 g, .int .i64 t, .slice D n c, .int .i64 l] 27)).alloc (.cells #[.int .i64 0] 3)).alloc (.cells #[.bool vg] 4)) (w.heap.size + 1) 3 #[.int .i64 0] := by
      have := (Blk.new (w.alloc (.cells #[.int .i64 g, .int .i64 t, .slice D n c, .int .i64 l] 27)) 3 #[.int .i64 0]).alloc (.cells #[.bool vg] 4)
      rwa [World.size_alloc] at this
    have hv0 : Blk (((w.alloc (.cells #[.int .i64 g, .int .i64 t, .slice D n c, .int .i64 l] 27)).alloc (.cells #[.int .i64 0] 3)).alloc (.cells #[.bool vg] 4)) (w.heap.size + 1 + 1) 4 #[.bool vg] := by
      have := Blk.new ((w.alloc (.cells #[.int .i64 g, .int .i64 t, .slice D n c, .int .i64 l] 27)).alloc (.cells #[.int .i64 0] 3)) 4 #[.bool vg]
      rwa [World.size_alloc, World.size_alloc] at this
    refine (Calls.mono (R := fun e w' => e = .returned (.tuple #[]) ∧ Blk w' w.heap.size 27 #[.int .i64 g, .int .i64 t, .slice D n c, .int .i64 l] ∧ Blk w' (w.heap.size + 1) 3 #[.int .i64 (Ex.sv t O 0)] ∧ Blk w' (w.heap.size + 1 + 1) 4 #[.bool (Ex.vv g t O 0)] ∧ Below w.heap.size w w') ?_ ?_)
    · by_cases ht : 0 ≤ t ∧ t ≤ 1000000000000
      · refine (add_yes (w.heap.size + 1 + 1) (w.heap.size + 1) t 0 vg _ hv0 hs0 ht.1 ht.2 (by omega) (by omega)).mono ?_
        rintro e w2 ⟨he, hs, hg⟩
        have h1 : Ex.sv t O 0 = 0 + t := by simp only [Ex.sv]; rw [if_pos (Ex.ok_yes ht.1 ht.2)]; omega
        have h2 : Ex.vv g t O 0 = vg := by simp only [Ex.vv]; rw [Ex.ok_yes ht.1 ht.2, Bool.and_true]; exact Hvg.out.symm
        rw [h1, h2]
        exact ⟨he, ho0.grown hg (by first | (simp; done) | (simp; omega)), hs, hv0.grown hg (by first | (simp; done) | (simp; omega)), hb0.trans ((only_below hg (by first | (simp; done) | (simp; omega))).mono (by omega))⟩
      · refine (add_no (w.heap.size + 1 + 1) (w.heap.size + 1) t 0 vg _ hv0 hs0 (by omega)).mono ?_
        rintro e w2 ⟨he, hv, hg⟩
        have hno := Ex.ok_no (x := t) (by omega)
        have h1 : Ex.sv t O 0 = 0 := by simp only [Ex.sv]; rw [if_neg (by rw [hno]; exact Bool.noConfusion)]
        have h2 : Ex.vv g t O 0 = false := by simp only [Ex.vv]; rw [hno, Bool.and_false]
        rw [h1, h2]
        exact ⟨he, ho0.grown hg (by first | (simp; done) | (simp; omega)), hs0.grown hg (by first | (simp; done) | (simp; omega)), hv, hb0.trans ((only_below hg (by first | (simp; done) | (simp; omega))).mono (by omega))⟩
    rintro e w2 ⟨rfl, ho2, hs2, hv2, hb2⟩
    clear hb0 ho0 hs0 hv0
    obtain ⟨q0, q1, q2, q3, _, _, _, _⟩ := res_cells (w0 := w) ho2
    have HO2 := Lib.hid ho2
    have HS2 := Lib.hid hs2
    have HV2 := Lib.hid hv2
    have HB2 := Lib.hid hb2
    clear ho2 hs2 hv2 hb2
    go_wp2
    go_loopw [23] (fun i wr => ∃ k : Nat, k ≤ n ∧ i = .int .i64 k ∧ Blk wr w.heap.size 27 #[.int .i64 g, .int .i64 t, .slice D n c, .int .i64 l] ∧ Blk wr (w.heap.size + 1) 3 #[.int .i64 (Ex.sv t O k)] ∧ Blk wr (w.heap.size + 1 + 1) 4 #[.bool (Ex.vv g t O k)] ∧ Below w.heap.size w wr) (fun i _ => n - (intOf i).toNat)
    case atStart => exact ⟨0, Nat.zero_le _, rfl, HO2.out, HS2.out, HV2.out, HB2.out⟩
    case round =>
      obtain ⟨k, hk, rfl, hor, hsr, hvr, hbr⟩ := hrel
      have hsb := Ex.sv_bounds t O k
      obtain ⟨s, hs⟩ : ∃ s, s = Ex.sv t O k := ⟨_, rfl⟩
      obtain ⟨v, hv⟩ : ∃ v, v = Ex.vv g t O k := ⟨_, rfl⟩
      rw [← hs] at hsr hsb
      rw [← hv] at hvr
      have s0 : 0 ≤ s := hsb.1
      have s1 : s ≤ 100000000000000 := by omega
      clear hsb
      have HS := Lib.hid hs
      have HV := Lib.hid hv
      have HOR := Lib.hid hor
      have HSR := Lib.hid hsr
      have HVR := Lib.hid hvr
      have HBR := Lib.hid hbr
      clear hs hv hor hsr hvr
      by_cases hkn : k < n
      · obtain ⟨b, off, rfl, hlt, hc⟩ := (hD.below hbr).one hkn
        clear hbr
        by_cases ha : 0 ≤ O k ∧ O k ≤ 1000000000000
        · go_wp2_with fail
          refine (add_yes (w.heap.size + 1 + 1) (w.heap.size + 1) (O k) s v _ HVR.out HSR.out ha.1 ha.2 s0 s1).mono ?_
          rintro e w3 ⟨rfl, hs3, hg3⟩
          have h1 : Ex.sv t O (k + 1) = s + O k := by simp only [Ex.sv]; rw [if_pos (Ex.ok_yes ha.1 ha.2), HS.out]
          have h2 : Ex.vv g t O (k + 1) = v := by simp only [Ex.vv]; rw [Ex.ok_yes ha.1 ha.2, Bool.and_true, HV.out]
          have H1 := Lib.hid h1
          have H2 := Lib.hid h2
          have R1 := Lib.hid (HOR.out.grown hg3 (by first | (simp; done) | (simp; omega)))
          have R2 := Lib.hid (HVR.out.grown hg3 (by first | (simp; done) | (simp; omega)))
          have R3 := Lib.hid (HBR.out.trans ((only_below hg3 (Nat.le_of_lt HSR.out.lt)).mono (by omega)))
          have R4 := Lib.hid hs3
          clear h1 h2 hs3 hg3
          go_wp2
          go_roundw
          case rel => exact ⟨k + 1, by omega, by go_num, R1.out, by rw [H1.out]; exact R4.out, by rw [H2.out]; exact R2.out, R3.out⟩
          case measure => simp [intOf]; omega
        · have hno := Ex.ok_no (x := O k) (by omega)
          have H0 := Lib.hid (show O k < 0 ∨ 1000000000000 < O k by omega)
          clear ha
          go_wp2_with fail
          refine (add_no (w.heap.size + 1 + 1) (w.heap.size + 1) (O k) s v _ HVR.out HSR.out H0.out).mono ?_
          rintro e w3 ⟨rfl, hv3, hg3⟩
          have h1 : Ex.sv t O (k + 1) = s := by simp only [Ex.sv]; rw [if_neg (by rw [hno]; exact Bool.noConfusion), HS.out]
          have h2 : Ex.vv g t O (k + 1) = false := by simp only [Ex.vv]; rw [hno, Bool.and_false]
          have H1 := Lib.hid h1
          have H2 := Lib.hid h2
          have R1 := Lib.hid (HOR.out.grown hg3 (by first | (simp; done) | (simp; omega)))
          have R2 := Lib.hid (HSR.out.grown hg3 (by first | (simp; done) | (simp; omega)))
          have R3 := Lib.hid (HBR.out.trans ((only_below hg3 (Nat.le_of_lt HVR.out.lt)).mono (by omega)))
          have R4 := Lib.hid hv3
          clear h1 h2 hv3 hg3 hno
          go_wp2
          go_roundw
          case rel => exact ⟨k + 1, by omega, by go_num, R1.out, by rw [H1.out]; exact R2.out, by rw [H2.out]; exact R4.out, R3.out⟩
          case measure => simp [intOf]; omega
      · obtain rfl : k = n := by omega
        obtain ⟨p0, p1, p2, p3, _, _, _, _⟩ := res_cells (w0 := w) HOR.out
        clear hbr
        by_cases ha : 0 ≤ l ∧ l ≤ 1000000000000
        · have hok := Ex.ok_yes ha.1 ha.2
          go_wp2_with fail
          refine (add_yes (w.heap.size + 1 + 1) (w.heap.size + 1) l s v _ HVR.out HSR.out ha.1 ha.2 s0 s1).mono ?_
          rintro e w3 ⟨rfl, hs3, hg3⟩
          have r0 := (HOR.out.grown hg3 (by first | (simp; done) | (simp; omega))).cell 0
          have r1 := (HVR.out.grown hg3 (by first | (simp; done) | (simp; omega))).cell 0
          have r2 := hs3.cell 0
          have R3 := Lib.hid (HBR.out.trans ((only_below hg3 (Nat.le_of_lt HSR.out.lt)).mono (by omega)))
          have t0 : w3.cell? ⟨w.heap.size, 0, none⟩ = some (.int .i64 g) := r0
          have t1 : w3.cell? ⟨w.heap.size + 1 + 1, 0, none⟩ = some (.bool v) := r1
          have t2 : w3.cell? ⟨w.heap.size + 1, 0, none⟩ = some (.int .i64 (s + l)) := r2
          clear r0 r1 r2 hs3 hg3 p0 p1 p2 p3
          cases v with
          | true =>
            have He := Lib.hid (Ex.exact_good (g := g) (t := t) (O := O) (l := l) (n := k) (by omega) (by rw [← HV.out, hok]; rfl))
            clear hok
            go_wp2
            go_ret
            exact ⟨ret_bool (by rw [He.out, HS.out]), R3.out⟩
          | false =>
            have He := Lib.hid (Ex.exact_bad (g := g) (t := t) (O := O) (l := l) (n := k) (by rw [← HV.out]; rfl))
            clear hok
            go_wp2
            go_ret
            exact ⟨ret_bool (by rw [He.out]), R3.out⟩
        · have hno := Ex.ok_no (x := l) (by omega)
          have H0 := Lib.hid (show l < 0 ∨ 1000000000000 < l by omega)
          have He := Lib.hid (Ex.exact_bad (g := g) (t := t) (O := O) (l := l) (n := k) (by rw [hno, Bool.and_false]))
          clear ha hno
          go_wp2_with fail
          refine (add_no (w.heap.size + 1 + 1) (w.heap.size + 1) l s v _ HVR.out HSR.out H0.out).mono ?_
          rintro e w3 ⟨rfl, hv3, hg3⟩
          have r0 := (HOR.out.grown hg3 (by first | (simp; done) | (simp; omega))).cell 0
          have r1 := hv3.cell 0
          have R3 := Lib.hid (HBR.out.trans ((only_below hg3 (Nat.le_of_lt HVR.out.lt)).mono (by omega)))
          have t0 : w3.cell? ⟨w.heap.size, 0, none⟩ = some (.int .i64 g) := r0
          have t1 : w3.cell? ⟨w.heap.size + 1 + 1, 0, none⟩ = some (.bool false) := r1
          clear r0 r1 hv3 hg3 p0 p1 p2 p3
          go_wp2
          go_ret
          exact ⟨ret_bool (by rw [He.out]), R3.out⟩
end Go.Proofs.Ytjifpiaianmmbaa
