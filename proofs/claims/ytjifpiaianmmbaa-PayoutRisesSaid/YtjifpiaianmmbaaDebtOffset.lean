/- The walks of debt.Offset (with its purse) and of its reference. -/
import Derived.Test.YtjifpiaianmmbaaDebtCheck
import Derived.Test.YtjifpiaianmmbaaTaxPart
import Derived.Test.YtjifpiaianmmbaaTaxWalks
import Derived.Test.YtjifpiaianmmbaaBase2
set_option linter.unusedVariables false
namespace Go.Proofs.Ytjifpiaianmmbaa
open Go.RowKit

/-- Elements of one int. -/
def Ints (G : Nat → Int) : Nat → Value := fun j => .int .i64 (G j)
theorem Ints_at (G : Nat → Int) (k : Nat) : Ints G k = .int .i64 (G k) := rfl
theorem Cells.one {w : World} {D : Option Addr} {n : Nat} {G : Nat → Int} (h : Cells w D (n * 1) (Ints G)) {k : Nat} (hk : k < n) :
    ∃ b off, D = some ⟨b, off, none⟩ ∧ b < w.heap.size ∧ w.cell? ⟨b, off + k, none⟩ = some (.int .i64 (G k)) := by
  obtain ⟨b, off, e, hlt, hc⟩ := h (by omega)
  exact ⟨b, off, e, hlt, hc k (by omega)⟩
theorem Try.info3 : (Try.prog.info? 3).map (fun i => (i.zero, i.size, i.bytes)) = some (some (.int .i64 0), 1, 8) := by kernel_rfl

theorem serve_any (g : Nat) (s : ByteArray) (r x l : Int) (w : World) (hl : 0 ≤ l) (hl1 : l ≤ 1000000000000) (hx : 1 ≤ x) (hx1 : x ≤ 1000000000000)
    (hg : Blk w g 54 #[.int .i64 l]) :
    Calls Try.prog 29 #[.pointer (some ⟨g, 0, none⟩), .agg #[.string s, .int .i64 r, .int .i64 x]] w fun e w' =>
      e = .returned (.int .i64 (min l x)) ∧ Blk w' g 54 #[.int .i64 (l - min l x)] ∧ w.grownBy w' (some g) := by
  have hc : w.cell? ⟨g, 0, none⟩ = some (.int .i64 l) := hg.cell 0
  have hf : w.frozen? ⟨g, 0, none⟩ = false := hg.frozen 0
  have hlt : g < w.heap.size := hg.lt
  have HG := Lib.hid hg
  clear hg
  by_cases hlx : l ≤ x
  · have Hm := Lib.hid (show min l x = l by omega)
    go_enter Try.func29, Try.ntmps29
    go_wp2
    go_quiet (fail)
    go_wp2
    go_ret
    refine ⟨ret_int Hm.out.symm, ?_, ?_⟩
    · rw [Hm.out, show l - l = 0 by omega]
      exact ((HG.out.alloc _).drewN _).set_ 0 _
    · exact only_set (only_drewN (only_alloc (only_refl _ _) _) _) 0 _
  · have Hm := Lib.hid (show min l x = x by omega)
    go_enter Try.func29, Try.ntmps29
    go_wp2
    go_quiet (fail)
    go_wp2
    go_ret
    refine ⟨ret_int Hm.out.symm, ?_, ?_⟩
    · rw [Hm.out]
      exact ((HG.out.alloc _).drewN _).set_ 0 _
    · exact only_set (only_drewN (only_alloc (only_refl _ _) _) _) 0 _

set_option maxHeartbeats 1000000 in
theorem each_any (g : Nat) (D : Option Addr) (n c : Nat) (C : Nat → ByteArray) (R A : Nat → Int) (a : Int) (w : World) (hn : n ≤ 16) (hgs : Blk w g 54 #[.int .i64 a]) (h0 : 0 ≤ a) (h1 : a ≤ 1000000000000)
    (hA : ∀ i, i < n → 1 ≤ A i ∧ A i ≤ 1000000000000) (h : ∀ w', Below g w w' → Cells w' D (n * 3) (Three C R A)) :
    Calls Try.prog 28 #[.slice D n c, .func (.func 29) #[.pointer (some ⟨g, 0, none⟩)] #[]] w fun e w' =>
      ∃ D' c', e = .returned (.slice D' n c') ∧ Cells w' D' (n * 1) (Ints (Db.get A a)) ∧ Blk w' g 54 #[.int .i64 (Db.left A a n)] ∧ Below g w w' ∧ Fresh w.heap.size D' := by
  obtain ⟨i0, hi, hz0, hz1, hz2⟩ := info_parts Try.info3
  have hglt : g < w.heap.size := hgs.lt
  have HG := Lib.hid hgs
  clear hgs
  go_enter Try.func28, Try.ntmps28
  go_wp2_with (at_make; refine wpList_make_own _ rfl _ _ 25 rfl w.heap.size 3 i0 (.int .i64 0) 1 Try.underlying25 hi hz0 hz1 _ _ _ n rfl rfl rfl ?c1 ?c2 ?c3 ?_)
  case c1 => rw [hz2]; omega
  case c2 => unfold maxLen; omega
  case c3 => exact Nat.le_refl _
  intro w1 hown1 hgr1
  have hbg1 := HG.out.grown hgr1 (by simp)
  have hb1 : Below g w w1 := ⟨hgr1.os, hgr1.tape, hgr1.output, hgr1.size, fun k hk => hgr1.block k (by omega) (by simp)⟩
  have hsz1 := hgr1.size
  clear hgr1
  go_wp2
  go_loopw [5, 13] (fun v i wr => ∃ k : Nat, k ≤ n ∧ i = .int .i64 k ∧ wr.ownsRow w.heap.size 3 1 v k (row (k * 1) (Ints (Db.get A a))) ∧ Blk wr g 54 #[.int .i64 (Db.left A a k)] ∧ Below g w wr) (fun _ i _ => n - (intOf i).toNat)
  case atStart => exact ⟨0, Nat.zero_le _, rfl, hown1, hbg1, hb1⟩
  case round =>
    obtain ⟨k, hk, rfl, hown, hbg, hbw⟩ := hrel
    have hszr := hbw.size
    by_cases hkn : k < n
    · obtain ⟨b, off, rfl, hlt, hc0, hc1, hc2⟩ := (h wr hbw).three hkn
      have hlb := Db.left_bounds h0 (fun i hi => (hA i hi).1) k hk
      obtain ⟨l, hl⟩ : ∃ l, l = Db.left A a k := ⟨_, rfl⟩
      rw [← hl] at hbg hlb
      have HL := Lib.hid hl
      have HBG := Lib.hid hbg
      have HO := Lib.hid hown
      have HB := Lib.hid hbw
      clear hl hbg hown hbw
      go_wp2_with fail
      refine (serve_any g _ _ _ l _ (by omega) (by omega) (hA k hkn).1 (hA k hkn).2 (HBG.out.alloc _)).mono ?_
      rintro e w2 ⟨rfl, hbg2, hgr2⟩
      have HO2 := Lib.hid (own_only (HO.out.alloc _) hgr2 hglt)
      have HB2 := Lib.hid ((HB.out.alloc (by omega) _).trans (only_below hgr2 (by simp; omega)))
      have hsz2 := hgr2.size
      have HBG2 := Lib.hid hbg2
      clear hbg2 hgr2 HO HB HBG
      have Hget := Lib.hid (show Db.get A a k = min l (A k) by unfold Db.get; rw [HL.out])
      have Hleft := Lib.hid (show Db.left A a (k + 1) = l - min l (A k) by rw [Db.left_succ, Hget.out, HL.out])
      obtain ⟨m, hm⟩ : ∃ m, m = min l (A k) := ⟨_, rfl⟩
      rw [← hm] at Hget Hleft HBG2 ⊢
      clear hm
      have hsz3 : w.heap.size ≤ w2.heap.size := by simp at hsz2; omega
      go_wp2_with (at_builtin; refine wpList_append_own _ rfl _ _ 25 rfl w.heap.size 3 i0 (.int .i64 0) 1 8 Try.underlying25 hi hz0 hz1 hz2 rfl (by decide) _ _ _ rfl (HO2.out.alloc _) ⟨w2.heap.size, 0, none⟩ 1 1 [.int .i64 m] rfl rfl ?c1 ?c2 ?c3 ?c4 ?c5 ?_)
      case c1 =>
        intro j u hj
        match j, hj with
        | 0, hj => simp at hj; subst hj; simp [Addr.add]
      case c2 => intro u hu; simp at hu; subst hu; rfl
      case c3 => unfold maxLen; omega
      case c4 => omega
      case c5 => simp; omega
      intro v' w3 hown' hgrow _
      have hbg3 := (HBG2.out.alloc _).grown hgrow (by
        intro e
        have := (HO2.out.alloc (.cells #[.int .i64 m] 3)).lt g e.symm
        omega)
      have hb3 : Below g w w3 := (HB2.out.alloc (by omega) _).grown hgrow (by simp; omega) fun j hj => by
        have := (HO2.out.alloc (.cells #[.int .i64 m] 3)).lt j hj
        omega
      have hown3 : w3.ownsRow w.heap.size 3 1 v' (k + 1) (row ((k + 1) * 1) (Ints (Db.get A a))) := by
        rw [Nat.mul_one, row_one, Ints_at, Hget.out]
        exact hown'
      clear hown' hgrow HO2 HB2 HBG2
      go_wp2
      go_roundw
      case rel => exact ⟨k + 1, by omega, by go_num, hown3, by rw [Hleft.out]; exact hbg3, hb3⟩
      case measure => simp [intOf]; omega
    · obtain rfl : k = n := by omega
      obtain ⟨D', c', rfl, _⟩ := own_slice hown
      have HC := Lib.hid (Cells.of_own hown)
      have HF := Lib.hid (Fresh.of_own hown)
      have HBG := Lib.hid hbg
      have HB := Lib.hid hbw
      clear hown hbg hbw
      go_wp2
      go_ret
      exact ⟨D', c', rfl, HC.out, HBG.out, HB.out, HF.out⟩

theorem dcheck_at {D : Option Addr} {n c : Nat} {C : Nat → ByteArray} {R A : Nat → Int} {y : Int} {w : World} (hn : n ≤ 9223372036854775807) (h : Cells w D (n * 3) (Three C R A)) (hC : ∀ i, i < n → (C i).size ≤ maxLen) (hy : Db.chk C R A n = y) :
    Calls Try.prog 27 #[.slice D n c] w fun e w' => e = .returned (.int .i64 y) ∧ Below w.heap.size w w' := by
  subst hy; exact dcheck_any D n c C R A w hn h hC
theorem refDcheck_at {D : Option Addr} {n c : Nat} {C : Nat → ByteArray} {R A : Nat → Int} {y : Int} {w : World} (hn : n ≤ 9223372036854775807) (h : Cells w D (n * 3) (Three C R A)) (hC : ∀ i, i < n → (C i).size ≤ maxLen) (hy : Db.chk C R A n = y) :
    Calls Try.prog 21 #[.slice D n c] w fun e w' => e = .returned (.int .i64 y) ∧ Below w.heap.size w w' := by
  subst hy; exact refDcheck_any D n c C R A w hn h hC

/-- Offset with an error. -/
theorem offset_err {D : Option Addr} {n c : Nat} {C : Nat → ByteArray} {R A : Nat → Int} {y a : Int} {w : World} (hn : n ≤ 9223372036854775807) (h : Cells w D (n * 3) (Three C R A)) (hC : ∀ i, i < n → (C i).size ≤ maxLen) (hy : Db.chk C R A n = y) (h0 : y ≠ 0) :
    Calls Try.prog 18 #[.slice D n c, .int .i64 a] w fun e w' => e = .returned (.tuple #[.slice none 0 0, .int .i64 0, .int .i64 y]) ∧ Below w.heap.size w w' := by
  have Hy := Lib.hid hy
  clear hy
  go_enter Try.func18, Try.ntmps18
  go_wp2_with fail
  refine (dcheck_at hn h hC Hy.out).mono ?_
  rintro e w1 ⟨rfl, hb1⟩
  go_wp2
  go_ret3
  exact ⟨rfl, hb1⟩
theorem offset_range {D : Option Addr} {n c : Nat} {C : Nat → ByteArray} {R A : Nat → Int} {a : Int} {w : World} (hn : n ≤ 9223372036854775807) (h : Cells w D (n * 3) (Three C R A)) (hC : ∀ i, i < n → (C i).size ≤ maxLen) (hy : Db.chk C R A n = 0) (h0 : a < 0 ∨ 1000000000000 < a) :
    Calls Try.prog 18 #[.slice D n c, .int .i64 a] w fun e w' => e = .returned (.tuple #[.slice none 0 0, .int .i64 0, .int .i64 2]) ∧ Below w.heap.size w w' := by
  have Hy := Lib.hid hy
  have H0 := Lib.hid h0
  clear hy h0
  go_enter Try.func18, Try.ntmps18
  go_wp2_with fail
  refine (dcheck_at hn h hC Hy.out).mono ?_
  rintro e w1 ⟨rfl, hb1⟩
  go_wp2_with fail
  refine (valid_no _ _ H0.out).mono ?_
  rintro e w2 ⟨rfl, rfl⟩
  go_wp2
  go_ret3
  exact ⟨rfl, hb1⟩
set_option maxHeartbeats 400000 in
theorem offset_fresh {D : Option Addr} {n c : Nat} {C : Nat → ByteArray} {R A : Nat → Int} {a : Int} {w : World} (hn : n ≤ 9223372036854775807) (h : Cells w D (n * 3) (Three C R A)) (hC : ∀ i, i < n → (C i).size ≤ maxLen) (hy : Db.chk C R A n = 0) (h0 : 0 ≤ a) (h1 : a ≤ 1000000000000) :
    Calls Try.prog 18 #[.slice D n c, .int .i64 a] w fun e w' => ∃ D' c', e = .returned (.tuple #[.slice D' n c', .int .i64 (Db.left A a n), .int .i64 0]) ∧ Cells w' D' (n * 1) (Ints (Db.get A a)) ∧ Below w.heap.size w w' ∧ Fresh w.heap.size D' := by
  have hmf : ∀ (fn : Fn) (first cap : Array Value) (w : World), (Instr.makeFunc fn first cap).run Try.prog w = .ok (.func fn first cap) w := fun _ _ _ _ => rfl
  have hn16 := (Db.of_chk hy).1
  have Hy := Lib.hid hy
  clear hy
  go_enter Try.func18, Try.ntmps18
  go_wp2_with fail
  refine (dcheck_at hn h hC Hy.out).mono ?_
  rintro e w1 ⟨rfl, hb1⟩
  go_wp2_with fail
  refine (valid_yes _ _ h0 h1).mono ?_
  rintro e w2 ⟨rfl, rfl⟩
  go_wp2_with fail
  have hst : ∀ w', Below w1.heap.size (w1.alloc (.cells #[.int .i64 a] 54)) w' → Cells w' D (n * 3) (Three C R A) := fun w' hb =>
    (h.below hb1).below (((Below.refl _ _).alloc (Nat.le_refl _) _).trans hb)
  have HST := Lib.hid hst
  clear hst
  refine (each_any w1.heap.size D n c C R A a _ hn16 (Blk.new _ _ _) h0 h1 (fun i hi => ⟨(Db.ok_in Hy.out hi).2.2.1, (Db.ok_in Hy.out hi).2.2.2⟩) HST.out).mono ?_
  rintro e w3 ⟨D', c', rfl, hc3, hbk, hb3, hfr⟩
  have HFR := Lib.hid (hfr.mono (show w.heap.size ≤ (w1.alloc (.cells #[.int .i64 a] 54)).heap.size by have := hb1.size; simp; omega))
  have hcell : w3.cell? ⟨w1.heap.size, 0, none⟩ = some (.int .i64 (Db.left A a n)) := hbk.cell 0
  have HC := Lib.hid hc3
  have HB := Lib.hid (hb1.trans ((((Below.refl w1.heap.size w1).alloc (Nat.le_refl _) _).trans hb3).mono hb1.size))
  clear hc3 hbk hb3 HST hfr
  go_wp2
  go_quiet (fail)
  go_wp2
  go_ret3
  exact ⟨D', c', rfl, fun hm => HC.out hm, below_drewN HB.out _, HFR.out⟩
theorem offset_ok {D : Option Addr} {n c : Nat} {C : Nat → ByteArray} {R A : Nat → Int} {a : Int} {w : World} (hn : n ≤ 9223372036854775807) (h : Cells w D (n * 3) (Three C R A)) (hC : ∀ i, i < n → (C i).size ≤ maxLen) (hy : Db.chk C R A n = 0) (h0 : 0 ≤ a) (h1 : a ≤ 1000000000000) :
    Calls Try.prog 18 #[.slice D n c, .int .i64 a] w fun e w' => ∃ D' c', e = .returned (.tuple #[.slice D' n c', .int .i64 (Db.left A a n), .int .i64 0]) ∧ Cells w' D' (n * 1) (Ints (Db.get A a)) ∧ Below w.heap.size w w' :=
  (offset_fresh hn h hC hy h0 h1).mono fun _ _ ⟨D', c', he, hc, hb, _⟩ => ⟨D', c', he, hc, hb⟩
end Go.Proofs.Ytjifpiaianmmbaa
