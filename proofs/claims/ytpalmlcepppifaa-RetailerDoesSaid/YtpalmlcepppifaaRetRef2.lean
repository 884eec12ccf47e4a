/- The walks of the reference's account: New, Account, Open. -/
import Derived.Test.YtpalmlcepppifaaRetRef
set_option linter.unusedVariables false
namespace Go.Proofs.Ytpalmlcepppifaa
open Go.RowKit

/-- Sum i of a state. -/
def sel (x : Rt.St) (i : Nat) : Int := if i = 0 then x.s else if i = 1 then x.r else x.c
/-- A list of amounts in memory of the reference's own. -/
structure Row (B : Nat) (w : World) (v : Value) (n : Nat) (F : Nat → Int) (s : Int) : Prop where
  own : w.ownsRow B 3 1 v n (row (n * 1) (IntV F))
  pos : ∀ i, i < n → 0 ≤ F i
  sum : sm F n = s
/-- The reference's account: its block, its three lists, all apart. -/
structure Ref (B : Nat) (w : World) (h : Nat) (t : Rt.Tm) (x : Rt.St) (L : Nat) (v : Nat → Value) (n : Nat → Nat) (F : Nat → Nat → Int) : Prop where
  blk : Blk w h 87 #[.int .i64 t.sale, .int .i64 t.cash, .int .i64 t.bonus, .int .i64 t.above, .int .i64 t.credit, v 0, v 1, v 2]
  rows : ∀ i, i < 3 → Row B w (v i) (n i) (F i) (sel x i)
  apart : ∀ i j, i < 3 → j < 3 → i ≠ j → (v i).ownBlock = none ∨ (v i).ownBlock ≠ (v j).ownBlock
  off : ∀ i, i < 3 → (v i).ownBlock ≠ some h
  len : ∀ i, i < 3 → n i ≤ L
  hB : B ≤ h
  okx : Rt.okS x
def RefE (B : Nat) (w : World) (h : Nat) (t : Rt.Tm) (x : Rt.St) (L : Nat) : Prop := ∃ v n F, Ref B w h t x L v n F
theorem Row.keep {B : Nat} {w w1 : World} {v : Value} {n : Nat} {F : Nat → Int} {s : Int} (h : Row B w v n F s) (hb : Below w.heap.size w w1) : Row B w1 v n F s := ⟨own_keep h.own hb, h.pos, h.sum⟩
theorem Ref.keep {B : Nat} {w w1 : World} {h : Nat} {t : Rt.Tm} {x : Rt.St} {L : Nat} {v : Nat → Value} {n : Nat → Nat} {F : Nat → Nat → Int} (r : Ref B w h t x L v n F) (hb : Below w.heap.size w w1) : Ref B w1 h t x L v n F :=
  ⟨r.blk.keep hb, fun i hi => (r.rows i hi).keep hb, r.apart, r.off, r.len, r.hB, r.okx⟩
theorem RefE.keep {B : Nat} {w w1 : World} {h : Nat} {t : Rt.Tm} {x : Rt.St} {L : Nat} (r : RefE B w h t x L) (hb : Below w.heap.size w w1) : RefE B w1 h t x L := by
  obtain ⟨v, n, F, r⟩ := r; exact ⟨v, n, F, r.keep hb⟩
theorem RefE.more {B : Nat} {w : World} {h : Nat} {t : Rt.Tm} {x : Rt.St} {L L' : Nat} (r : RefE B w h t x L) (hl : L ≤ L') : RefE B w h t x L' := by
  obtain ⟨v, n, F, r⟩ := r; exact ⟨v, n, F, r.blk, r.rows, r.apart, r.off, fun i hi => Nat.le_trans (r.len i hi) hl, r.hB, r.okx⟩
/-- Kept where only an older block has turned. -/
theorem Ref.only {B g : Nat} {w w1 : World} {h : Nat} {t : Rt.Tm} {x : Rt.St} {L : Nat} {v : Nat → Value} {n : Nat → Nat} {F : Nat → Nat → Int} (r : Ref B w h t x L v n F) (hb : w.grownBy w1 (some g)) (hg : g < B) : Ref B w1 h t x L v n F :=
  ⟨r.blk.grown hb (by have := r.hB; simp; omega), fun i hi => ⟨own_only (r.rows i hi).own hb hg, (r.rows i hi).pos, (r.rows i hi).sum⟩, r.apart, r.off, r.len, r.hB, r.okx⟩
theorem RefE.only {B g : Nat} {w w1 : World} {h : Nat} {t : Rt.Tm} {x : Rt.St} {L : Nat} (r : RefE B w h t x L) (hb : w.grownBy w1 (some g)) (hg : g < B) : RefE B w1 h t x L := by
  obtain ⟨v, n, F, r⟩ := r; exact ⟨v, n, F, r.only hb hg⟩
theorem RefE.okx {B : Nat} {w : World} {h : Nat} {t : Rt.Tm} {x : Rt.St} {L : Nat} (r : RefE B w h t x L) : Rt.okS x := by
  obtain ⟨v, n, F, r⟩ := r; exact r.okx
theorem RefE.lt {B : Nat} {w : World} {h : Nat} {t : Rt.Tm} {x : Rt.St} {L : Nat} (r : RefE B w h t x L) : B ≤ h ∧ h < w.heap.size := by
  obtain ⟨v, n, F, r⟩ := r; exact ⟨r.hB, r.blk.lt⟩
/-- The lists' values laid open. -/
theorem Ref.open_ {B : Nat} {w : World} {h : Nat} {t : Rt.Tm} {x : Rt.St} {L : Nat} {v : Nat → Value} {n : Nat → Nat} {F : Nat → Nat → Int} (r : Ref B w h t x L v n F) :
    ∃ (A : Nat → Option Addr) (c : Nat → Nat), (∀ i, i < 3 → v i = .slice (A i) (n i) (c i) ∧ Cells w (A i) (n i * 1) (IntV (F i))) ∧
      w.cell? ⟨h, 0, none⟩ = some (.int .i64 t.sale) ∧ w.cell? ⟨h, 1, none⟩ = some (.int .i64 t.cash) ∧ w.cell? ⟨h, 2, none⟩ = some (.int .i64 t.bonus) ∧ w.cell? ⟨h, 3, none⟩ = some (.int .i64 t.above) ∧ w.cell? ⟨h, 4, none⟩ = some (.int .i64 t.credit) ∧
      w.cell? ⟨h, 5, none⟩ = some (.slice (A 0) (n 0) (c 0)) ∧ w.cell? ⟨h, 6, none⟩ = some (.slice (A 1) (n 1) (c 1)) ∧ w.cell? ⟨h, 7, none⟩ = some (.slice (A 2) (n 2) (c 2)) ∧
      w.frozen? ⟨h, 5, none⟩ = false ∧ w.frozen? ⟨h, 6, none⟩ = false ∧ w.frozen? ⟨h, 7, none⟩ = false := by
  have hv : ∀ i, i < 3 → ∃ p : Option Addr × Nat, v i = .slice p.1 (n i) p.2 := fun i hi => by
    obtain ⟨A, c, e, _⟩ := own_slice (r.rows i hi).own
    exact ⟨(A, c), e⟩
  obtain ⟨f, hf⟩ := pick hv
  refine ⟨fun i => (f i).1, fun i => (f i).2, fun i hi => ⟨hf i hi, ?_⟩, r.blk.cell 0, r.blk.cell 1, r.blk.cell 2, r.blk.cell 3, r.blk.cell 4, ?_, ?_, ?_, r.blk.frozen 5, r.blk.frozen 6, r.blk.frozen 7⟩
  · have := (r.rows i hi).own
    rw [hf i hi] at this
    exact Cells.of_own this
  · rw [← hf 0 (by omega)]; exact r.blk.cell 5
  · rw [← hf 1 (by omega)]; exact r.blk.cell 6
  · rw [← hf 2 (by omega)]; exact r.blk.cell 7

set_option maxHeartbeats 1000000 in
theorem refNew_ok {w : World} {t : Rt.Tm} (ht : Rt.okT t) :
    Calls Try.prog 25 #[.agg #[.int .i64 t.sale, .int .i64 t.cash, .int .i64 t.bonus, .int .i64 t.above, .int .i64 t.credit]] w fun e w' => ∃ h, e = .returned (.tuple #[.pointer (some ⟨h, 0, none⟩), .int .i64 0]) ∧ RefE w.heap.size w' h t Rt.zero 0 ∧ Below w.heap.size w w' := by
  obtain ⟨l, m, n, ⟨v0, v1⟩, ⟨k0, k1⟩⟩ := ht
  have HL := Lib.hid l
  have HM := Lib.hid m
  have HN := Lib.hid n
  clear l m n
  go_enter Try.func25, Try.ntmps25
  go_wp2_with fail
  refine (rate_yes HL.out).mono ?_
  rintro e w1 ⟨rfl, rfl⟩
  go_wp2_with fail
  refine (rate_yes HM.out).mono ?_
  rintro e w1 ⟨rfl, rfl⟩
  go_wp2_with fail
  refine (rate_yes HN.out).mono ?_
  rintro e w1 ⟨rfl, rfl⟩
  go_wp2_with fail
  refine (refValid_yes _ _ v0 v1).mono ?_
  rintro e w1 ⟨rfl, rfl⟩
  go_wp2_with fail
  refine (refValid_yes _ _ k0 k1).mono ?_
  rintro e w1 ⟨rfl, rfl⟩
  go_wp2
  go_ret2
  refine ⟨_, rfl, ⟨fun _ => .slice none 0 0, fun _ => 0, fun _ _ => 0, Blk.new_ (by simp), fun i hi => ⟨World.ownsRow_nil _ _ _ _, fun j hj => absurd hj (by omega), ?_⟩, fun i j _ _ _ => .inl rfl, fun i _ => by simp [Value.ownBlock], fun i _ => Nat.le_refl _, by simp, Rt.okS_zero⟩, ((Below.refl _ _).alloc (Nat.le_refl _) _).alloc (by simp) _⟩
  unfold sel Rt.zero; simp [sm]
theorem refNew_bad {w : World} {t : Rt.Tm} (ht : ¬ Rt.okT t) :
    Calls Try.prog 25 #[.agg #[.int .i64 t.sale, .int .i64 t.cash, .int .i64 t.bonus, .int .i64 t.above, .int .i64 t.credit]] w fun e w' => e = .returned (.tuple #[.pointer none, .int .i64 2]) ∧ Below w.heap.size w w' := by
  have hb := (Below.refl w.heap.size w).alloc (Nat.le_refl _) (.cells #[.int .i64 t.sale, .int .i64 t.cash, .int .i64 t.bonus, .int .i64 t.above, .int .i64 t.credit] 36)
  have HB := Lib.hid hb
  have HT := Lib.hid ht
  clear hb ht
  by_cases l : Rt.rate t.sale
  · have HL := Lib.hid l
    clear l
    by_cases m : Rt.rate t.cash
    · have HM := Lib.hid m
      clear m
      by_cases n : Rt.rate t.bonus
      · have HN := Lib.hid n
        clear n
        by_cases v : Rt.amt t.above
        · have hc : t.credit < 0 ∨ 1000000000000 < t.credit := by
            have : ¬ Rt.amt t.credit := fun h => HT.out ⟨HL.out, HM.out, HN.out, v, h⟩
            unfold Rt.amt at this; omega
          obtain ⟨v0, v1⟩ := v
          have HC := Lib.hid hc
          clear hc
          go_enter Try.func25, Try.ntmps25
          go_wp2_with fail
          refine (rate_yes HL.out).mono ?_
          rintro e w1 ⟨rfl, rfl⟩
          go_wp2_with fail
          refine (rate_yes HM.out).mono ?_
          rintro e w1 ⟨rfl, rfl⟩
          go_wp2_with fail
          refine (rate_yes HN.out).mono ?_
          rintro e w1 ⟨rfl, rfl⟩
          go_wp2_with fail
          refine (refValid_yes _ _ v0 v1).mono ?_
          rintro e w1 ⟨rfl, rfl⟩
          go_wp2_with fail
          refine (refValid_no _ _ HC.out).mono ?_
          rintro e w1 ⟨rfl, rfl⟩
          go_wp2
          go_ret2
          exact ⟨rfl, HB.out⟩
        · have hc : t.above < 0 ∨ 1000000000000 < t.above := by unfold Rt.amt at v; omega
          have HC := Lib.hid hc
          clear hc v
          go_enter Try.func25, Try.ntmps25
          go_wp2_with fail
          refine (rate_yes HL.out).mono ?_
          rintro e w1 ⟨rfl, rfl⟩
          go_wp2_with fail
          refine (rate_yes HM.out).mono ?_
          rintro e w1 ⟨rfl, rfl⟩
          go_wp2_with fail
          refine (rate_yes HN.out).mono ?_
          rintro e w1 ⟨rfl, rfl⟩
          go_wp2_with fail
          refine (refValid_no _ _ HC.out).mono ?_
          rintro e w1 ⟨rfl, rfl⟩
          go_wp2
          go_ret2
          exact ⟨rfl, HB.out⟩
      · have HN := Lib.hid n
        clear n
        go_enter Try.func25, Try.ntmps25
        go_wp2_with fail
        refine (rate_yes HL.out).mono ?_
        rintro e w1 ⟨rfl, rfl⟩
        go_wp2_with fail
        refine (rate_yes HM.out).mono ?_
        rintro e w1 ⟨rfl, rfl⟩
        go_wp2_with fail
        refine (rate_no HN.out).mono ?_
        rintro e w1 ⟨rfl, rfl⟩
        go_wp2
        go_ret2
        exact ⟨rfl, HB.out⟩
    · have HM := Lib.hid m
      clear m
      go_enter Try.func25, Try.ntmps25
      go_wp2_with fail
      refine (rate_yes HL.out).mono ?_
      rintro e w1 ⟨rfl, rfl⟩
      go_wp2_with fail
      refine (rate_no HM.out).mono ?_
      rintro e w1 ⟨rfl, rfl⟩
      go_wp2
      go_ret2
      exact ⟨rfl, HB.out⟩
  · have HL := Lib.hid l
    clear l
    go_enter Try.func25, Try.ntmps25
    go_wp2_with fail
    refine (rate_no HL.out).mono ?_
    rintro e w1 ⟨rfl, rfl⟩
    go_wp2
    go_ret2
    exact ⟨rfl, HB.out⟩
end Go.Proofs.Ytpalmlcepppifaa
