/- The walks of the reference's Add. -/
import Derived.Test.YtiflmnmkmpjecaaNatHalf
import Derived.Deep.RegionHeld3
set_option linter.unusedVariables false
namespace Go.Proofs.Ytiflmnmkmpjecaa
open Go.RowKit

theorem bl_alloc {a w : World} (h : Below a.heap.size a w) (o : Obj) : Below a.heap.size a (w.alloc o) := h.alloc h.size o
theorem bl_on {a w w' : World} (h : Below a.heap.size a w) (k : Below w.heap.size w w') : Below a.heap.size a w' := Below.on h k
theorem bl_lt {w w' : World} (h : Below w.heap.size w w') : ∀ k, k < w.heap.size → k < w'.heap.size := fun k hk => Nat.lt_of_lt_of_le hk h.size
theorem bl_drew {a w : World} (h : Below a.heap.size a w) : Below a.heap.size a w.drew := h.drew
theorem Bo.set_ {w w' : World} {S T R : Value} (h : Bo w w' S T R) {g : Nat} (hg : w.heap.size + 1 + 1 < g) (i : Nat) (u : Value) : Bo w (w'.setCell ⟨g, i, none⟩ u) S T R :=
  ⟨h.below.setCell (by simp; omega) _, h.b0.grown (only_set (only_refl _ _) i u) (by intro e; injection e; omega), h.b1.grown (only_set (only_refl _ _) i u) (by intro e; injection e; omega), h.b2.grown (only_set (only_refl _ _) i u) (by intro e; injection e; omega)⟩
theorem Bo.lt2 {w w' : World} {S T R : Value} (h : Bo w w' S T R) : w.heap.size + 1 + 1 < w'.heap.size := h.facts.2.2.2.2
theorem Bo.keep {w w' : World} {S T R : Value} (h : Bo w w' S T R) : w'.cell? ⟨w.heap.size, 0, none⟩ = some S ∧ w'.cell? ⟨w.heap.size + 1, 0, none⟩ = some T ∧ Bo w w' S T R := ⟨h.facts.1, h.facts.2.1, h⟩
theorem Bo.all {w w' : World} {S T R : Value} (h : Bo w w' S T R) : w'.cell? ⟨w.heap.size, 0, none⟩ = some S ∧ w'.cell? ⟨w.heap.size + 1, 0, none⟩ = some T ∧ w'.cell? ⟨w.heap.size + 1 + 1, 0, none⟩ = some R ∧ w'.frozen? ⟨w.heap.size + 1 + 1, 0, none⟩ = false ∧ w.heap.size + 1 + 1 < w'.heap.size ∧ Bo w w' S T R := ⟨h.facts.1, h.facts.2.1, h.facts.2.2.1, h.facts.2.2.2.1, h.facts.2.2.2.2, h⟩

theorem whole_yes {D : Option Addr} {n c x : Nat} {w : World} (hn : n ≤ 1000) (hnc : n ≤ c) (hnx : Fit16 x n) (hx : Cells w D n (Dg (d16 x))) (h64 : L32 x ≤ 64) :
    Calls Try.prog 77 #[.slice D n c] w fun e w' => ∃ Dr cr, e = .returned (.tuple #[.agg #[.slice Dr (L32 x) cr], .bool true]) ∧ L32 x ≤ cr ∧ Cells w' Dr (L32 x) (Lm (d32 x)) ∧ Fresh w.heap.size Dr ∧ Below w.heap.size w w' := by
  refine (whole_any hn hnc hnx hx).mono ?_
  rintro e w1 ⟨⟨_, Dr, cr, he, h1, h2, h3⟩ | ⟨h, _⟩, hb⟩
  · exact ⟨Dr, cr, he, h1, h2, h3, hb⟩
  · omega
theorem whole_no {D : Option Addr} {n c x : Nat} {w : World} (hn : n ≤ 1000) (hnc : n ≤ c) (hnx : Fit16 x n) (hx : Cells w D n (Dg (d16 x))) (h64 : 64 < L32 x) :
    Calls Try.prog 77 #[.slice D n c] w fun e w' => e = .returned (.tuple #[.agg #[.slice none 0 0], .bool false]) ∧ Below w.heap.size w w' := by
  refine (whole_any hn hnc hnx hx).mono ?_
  rintro e w1 ⟨⟨h, _⟩ | ⟨_, he⟩, hb⟩
  · omega
  · exact ⟨he, hb⟩

set_option maxHeartbeats 2000000 in
set_option maxRecDepth 100000 in
theorem refAdd_any {D E : Option Addr} {n m c c' x y : Nat} {w : World} (hn : n ≤ 64) (hm : m ≤ 64) (hnx : n = L32 x) (hmy : m = L32 y) (hx : Cells w D n (Lm (d32 x))) (hy : Cells w E m (Lm (d32 y))) :
    Calls Try.prog 46 #[natv D n c, natv E m c'] w fun e w' => NatRes w.heap.size w' e (x + y) ∧ Below w.heap.size w w' := by
  have hvx := Lib.hid (vd_true hn hnx)
  have hvy := Lib.hid (vd_true hm hmy)
  have HX := Lib.hid hnx
  have HY := Lib.hid hmy
  have lx : L16 x ≤ 128 := by have := L32_half x; omega
  have ly : L16 y ≤ 128 := by have := L32_half y; omega
  have lz : Hid (L16 (x + y) ≤ 1000) := by
    have h1 := (c16_top (x := x) (y := y) (n := 128) (fit16_of lx) (fit16_of ly)).2
    have := fit16_le h1
    show L16 (x + y) ≤ 1000
    omega
  clear hnx hmy
  have BO0 := Lib.hid (Bo.new w (.slice D n c) (.slice E m c') (.slice none 0 0))
  unfold natv
  go_enter Try.func46, Try.ntmps46
  go_wp2_with fail
  refine (rvalid_is (by omega) (hx.below BO0.out.below) hvx.out).mono ?_
  rintro e w1 ⟨rfl, hb1⟩
  have BO1 := Lib.hid (BO0.out.on hb1)
  obtain ⟨q0, q1, q2, f2, hlt⟩ := BO1.out.facts
  clear hb1 BO0
  go_wp2_with fail
  refine (rvalid_is (by omega) (hy.below BO1.out.below) hvy.out).mono ?_
  rintro e w2 ⟨rfl, hb1⟩
  clear q0 q1 q2 f2 hlt
  have BO2 := BO1.out.on hb1
  clear hb1 BO1
  have hx2 := hx.below BO2.below
  have hy2 := hy.below BO2.below
  obtain ⟨q0, q1, q2, f2, hlt, _⟩ := BO2.all
  go_upto_region 3 with (fail)
  go_cut [6, 7] (fun s6 s7 wx => ∃ (b : Nat) (S : Value), s6 = .pointer (some ⟨b, 0, none⟩) ∧ Hid (w.heap.size + 1 + 1 < b) ∧ Hid (Blk wx b 32 #[S]) ∧ Hid (Bo w wx (.slice D n c) (.slice E m c') (.slice none 0 0)) ∧
    Hid ((L32 (x + y) ≤ 64 ∧ s7 = .bool true ∧ ∃ Dr cr, S = .slice Dr (L32 (x + y)) cr ∧ L32 (x + y) ≤ cr ∧ Cells wx Dr (L32 (x + y)) (Lm (d32 (x + y))) ∧ Fresh (w.heap.size + 1 + 1 + 1) Dr) ∨ (64 < L32 (x + y) ∧ s7 = .bool false ∧ S = .slice none 0 0)))
  case first =>
    have BOd : Bo w w2.drew (.slice D n c) (.slice E m c') (.slice none 0 0) := BO2.on (bl_drew (Below.refl _ _))
    by_cases h64 : L32 (x + y) ≤ 64
    · go_region_held3 (fun w' => w'.cell? ⟨w.heap.size, 0, none⟩ = some (.slice D n c) ∧ w'.cell? ⟨w.heap.size + 1, 0, none⟩ = some (.slice E m c') ∧ Bo w w' (.slice D n c) (.slice E m c') (.slice none 0 0))
        (first
          | exact Bo.keep (by assumption)
          | exact Bo.keep (Bo.on (by assumption) (bl_alloc (Below.refl _ _) _))
          | exact Bo.keep (Bo.set_ (by assumption) (Bo.lt2 (by assumption)) _ _))
        (first
          | (go_at_call_of 79 (Value.agg #[Value.slice D n c]); refine (halves_any (x := x) (by omega) HX.out (Cells.below hx2 ?_)).mono ?_; (first | exact Below.refl _ _ | assumption | exact bl_alloc (by assumption) _ | exact bl_alloc (Below.refl _ _) _ | exact bl_drew (Below.refl _ _) | exact bl_alloc (bl_drew (Below.refl _ _)) _); rintro e w5 ⟨D5, c5, rfl, hl5, hc5, hf5, hb5⟩; obtain ⟨bc5, bf5⟩ := bcell hb5; have k05 : Below w2.heap.size w2 w5 := (by first | exact bl_on (bl_drew (Below.refl _ _)) hb5 | exact bl_on (bl_alloc (bl_drew (Below.refl _ _)) _) hb5); have B5 := BO2.on k05)
          | (go_at_call_of 79 (Value.agg #[Value.slice E m c']); refine (halves_any (x := y) (by omega) HY.out (Cells.below hy2 ?_)).mono ?_; (first | exact Below.refl _ _ | assumption | exact bl_alloc (by assumption) _ | exact bl_alloc (Below.refl _ _) _ | exact bl_drew (Below.refl _ _) | exact bl_alloc (bl_drew (Below.refl _ _)) _); rintro e w6 ⟨D6, c6, rfl, hl6, hc6, hf6, hb6⟩; obtain ⟨bc6, bf6⟩ := bcell hb6; have k56 : Below w5.heap.size w5 w6 := (by first | exact hb6 | exact bl_on (bl_alloc (Below.refl _ _) _) hb6); have B6 := B5.on k56; obtain ⟨bc56, bf56⟩ := bcell (bl_on hb5 k56))
          | (go_at_call 78; refine (radd_any (x := x) (y := y) (by omega) (by omega) rfl rfl (Cells.below hc5 ?_) (Cells.below hc6 ?_)).mono ?_; (first | exact Below.refl _ _ | assumption | exact bl_alloc (by assumption) _ | exact bl_alloc (Below.refl _ _) _ | exact bl_drew (Below.refl _ _) | exact bl_alloc (bl_drew (Below.refl _ _)) _); (first | exact Below.refl _ _ | assumption | exact bl_alloc (by assumption) _ | exact bl_alloc (Below.refl _ _) _ | exact bl_drew (Below.refl _ _) | exact bl_alloc (bl_drew (Below.refl _ _)) _); rintro e w7 ⟨D7, c7, rfl, hl7, hc7, hf7, hb7⟩; obtain ⟨bc7, bf7⟩ := bcell hb7; have k67 : Below w6.heap.size w6 w7 := (by first | exact hb7 | exact bl_on (bl_alloc (Below.refl _ _) _) hb7); have B7 := B6.on k67; obtain ⟨bc67, bf67⟩ := bcell (bl_on hb6 k67); have k57 := bl_on k56 k67; obtain ⟨bc57, bf57⟩ := bcell (bl_on hb5 k57))
          | (go_at_call 77; refine (whole_yes (x := x + y) lz.out hl7 (fit16_len _) (Cells.below hc7 ?_) h64).mono ?_; (first | exact Below.refl _ _ | assumption | exact bl_alloc (by assumption) _ | exact bl_alloc (Below.refl _ _) _ | exact bl_drew (Below.refl _ _) | exact bl_alloc (bl_drew (Below.refl _ _)) _); rintro e w8 ⟨D8, c8, rfl, hl8, hc8, hf8, hb8⟩; obtain ⟨bc8, bf8⟩ := bcell hb8; have k78 : Below w7.heap.size w7 w8 := (by first | exact hb8 | exact bl_on (bl_alloc (Below.refl _ _) _) hb8); have B8 := B7.on k78; obtain ⟨bc78, bf78⟩ := bcell (bl_on hb7 k78); have k68 := bl_on k67 k78; obtain ⟨bc68, bf68⟩ := bcell (bl_on hb6 k68); have k58 := bl_on k57 k78; obtain ⟨bc58, bf58⟩ := bcell (bl_on hb5 k58)))
      all_goals
        go_wp2_with fail
        go_meet
        case rel =>
          first
            | exact ⟨_, _, rfl, B8.lt2, (Blk.new w8 _ _), (B8.on (bl_alloc (Below.refl _ _) _)), .inl ⟨h64, rfl, D8, c8, rfl, hl8, (hc8.alloc _), (hf8.mono (by have := B7.lt2; omega))⟩⟩
            | exact ⟨_, _, rfl, B7.lt2, (((Blk.new w7 _ _).keep hb8).set_ 0 _), (B8.set_ B7.lt2 _ _), .inl ⟨h64, rfl, D8, c8, rfl, hl8, (hc8.set_ hf8 (by simp) _ _), (hf8.mono (by have := B7.lt2; have := B7.lt2; simp; omega))⟩⟩
            | exact ⟨_, _, rfl, B6.lt2, ((((Blk.new w6 _ _).keep hb7).keep k78).set_ 0 _), (B8.set_ B6.lt2 _ _), .inl ⟨h64, rfl, D8, c8, rfl, hl8, (hc8.set_ hf8 (by have h1 := hb7.size; simp at h1; omega) _ _), (hf8.mono (by have := B7.lt2; omega))⟩⟩
            | exact ⟨_, _, rfl, B5.lt2, ((((Blk.new w5 _ _).keep hb6).keep k68).set_ 0 _), (B8.set_ B5.lt2 _ _), .inl ⟨h64, rfl, D8, c8, rfl, hl8, (hc8.set_ hf8 (by have h1 := hb6.size; have h2 := k67.size; simp at h1; omega) _ _), (hf8.mono (by have := B7.lt2; omega))⟩⟩
            | exact ⟨_, _, rfl, BO2.lt2, ((((Blk.new w2.drew _ _).keep hb5).keep k58).set_ 0 _), (B8.set_ BO2.lt2 _ _), .inl ⟨h64, rfl, D8, c8, rfl, hl8, (hc8.set_ hf8 (by have h1 := hb5.size; have h2 := k57.size; simp at h1; omega) _ _), (hf8.mono (by have := B7.lt2; omega))⟩⟩
    · have h64 : 64 < L32 (x + y) := by omega
      go_region_held3 (fun w' => w'.cell? ⟨w.heap.size, 0, none⟩ = some (.slice D n c) ∧ w'.cell? ⟨w.heap.size + 1, 0, none⟩ = some (.slice E m c') ∧ Bo w w' (.slice D n c) (.slice E m c') (.slice none 0 0))
        (first
          | exact Bo.keep (by assumption)
          | exact Bo.keep (Bo.on (by assumption) (bl_alloc (Below.refl _ _) _))
          | exact Bo.keep (Bo.set_ (by assumption) (Bo.lt2 (by assumption)) _ _))
        (first
          | (go_at_call_of 79 (Value.agg #[Value.slice D n c]); refine (halves_any (x := x) (by omega) HX.out (Cells.below hx2 ?_)).mono ?_; (first | exact Below.refl _ _ | assumption | exact bl_alloc (by assumption) _ | exact bl_alloc (Below.refl _ _) _ | exact bl_drew (Below.refl _ _) | exact bl_alloc (bl_drew (Below.refl _ _)) _); rintro e w5 ⟨D5, c5, rfl, hl5, hc5, hf5, hb5⟩; obtain ⟨bc5, bf5⟩ := bcell hb5; have k05 : Below w2.heap.size w2 w5 := (by first | exact bl_on (bl_drew (Below.refl _ _)) hb5 | exact bl_on (bl_alloc (bl_drew (Below.refl _ _)) _) hb5); have B5 := BO2.on k05)
          | (go_at_call_of 79 (Value.agg #[Value.slice E m c']); refine (halves_any (x := y) (by omega) HY.out (Cells.below hy2 ?_)).mono ?_; (first | exact Below.refl _ _ | assumption | exact bl_alloc (by assumption) _ | exact bl_alloc (Below.refl _ _) _ | exact bl_drew (Below.refl _ _) | exact bl_alloc (bl_drew (Below.refl _ _)) _); rintro e w6 ⟨D6, c6, rfl, hl6, hc6, hf6, hb6⟩; obtain ⟨bc6, bf6⟩ := bcell hb6; have k56 : Below w5.heap.size w5 w6 := (by first | exact hb6 | exact bl_on (bl_alloc (Below.refl _ _) _) hb6); have B6 := B5.on k56; obtain ⟨bc56, bf56⟩ := bcell (bl_on hb5 k56))
          | (go_at_call 78; refine (radd_any (x := x) (y := y) (by omega) (by omega) rfl rfl (Cells.below hc5 ?_) (Cells.below hc6 ?_)).mono ?_; (first | exact Below.refl _ _ | assumption | exact bl_alloc (by assumption) _ | exact bl_alloc (Below.refl _ _) _ | exact bl_drew (Below.refl _ _) | exact bl_alloc (bl_drew (Below.refl _ _)) _); (first | exact Below.refl _ _ | assumption | exact bl_alloc (by assumption) _ | exact bl_alloc (Below.refl _ _) _ | exact bl_drew (Below.refl _ _) | exact bl_alloc (bl_drew (Below.refl _ _)) _); rintro e w7 ⟨D7, c7, rfl, hl7, hc7, hf7, hb7⟩; obtain ⟨bc7, bf7⟩ := bcell hb7; have k67 : Below w6.heap.size w6 w7 := (by first | exact hb7 | exact bl_on (bl_alloc (Below.refl _ _) _) hb7); have B7 := B6.on k67; obtain ⟨bc67, bf67⟩ := bcell (bl_on hb6 k67); have k57 := bl_on k56 k67; obtain ⟨bc57, bf57⟩ := bcell (bl_on hb5 k57))
          | (go_at_call 77; refine (whole_no (x := x + y) lz.out hl7 (fit16_len _) (Cells.below hc7 ?_) h64).mono ?_; (first | exact Below.refl _ _ | assumption | exact bl_alloc (by assumption) _ | exact bl_alloc (Below.refl _ _) _ | exact bl_drew (Below.refl _ _) | exact bl_alloc (bl_drew (Below.refl _ _)) _); rintro e w8 ⟨rfl, hb8⟩; obtain ⟨bc8, bf8⟩ := bcell hb8; have k78 : Below w7.heap.size w7 w8 := (by first | exact hb8 | exact bl_on (bl_alloc (Below.refl _ _) _) hb8); have B8 := B7.on k78; obtain ⟨bc78, bf78⟩ := bcell (bl_on hb7 k78); have k68 := bl_on k67 k78; obtain ⟨bc68, bf68⟩ := bcell (bl_on hb6 k68); have k58 := bl_on k57 k78; obtain ⟨bc58, bf58⟩ := bcell (bl_on hb5 k58)))
      all_goals
        go_wp2_with fail
        go_meet
        case rel =>
          first
            | exact ⟨_, _, rfl, B8.lt2, (Blk.new w8 _ _), (B8.on (bl_alloc (Below.refl _ _) _)), .inr ⟨h64, rfl, rfl⟩⟩
            | exact ⟨_, _, rfl, B7.lt2, (((Blk.new w7 _ _).keep hb8).set_ 0 _), (B8.set_ B7.lt2 _ _), .inr ⟨h64, rfl, rfl⟩⟩
            | exact ⟨_, _, rfl, B6.lt2, ((((Blk.new w6 _ _).keep hb7).keep k78).set_ 0 _), (B8.set_ B6.lt2 _ _), .inr ⟨h64, rfl, rfl⟩⟩
            | exact ⟨_, _, rfl, B5.lt2, ((((Blk.new w5 _ _).keep hb6).keep k68).set_ 0 _), (B8.set_ B5.lt2 _ _), .inr ⟨h64, rfl, rfl⟩⟩
            | exact ⟨_, _, rfl, BO2.lt2, ((((Blk.new w2.drew _ _).keep hb5).keep k58).set_ 0 _), (B8.set_ BO2.lt2 _ _), .inr ⟨h64, rfl, rfl⟩⟩
  case rest =>
    obtain ⟨b, S, rfl, HLT, HKB, BO3, HR⟩ := hcut
    clear q0 q1 q2 f2 hlt hx2 hy2 hvx hvy HX HY
    obtain ⟨q0, q1, q2, f2, hlt⟩ := BO3.out.facts
    have r0 : wc.cell? ⟨b, 0, none⟩ = some S := HKB.out.cell 0
    rcases HR.out with ⟨h64, rfl, Dr, cr, rfl, hlc, hcr, hfr⟩ | ⟨h64, rfl, rfl⟩
    · obtain ⟨l, hl⟩ : ∃ l, l = L32 (x + y) := ⟨_, rfl⟩
      rw [← hl] at hlc hcr h64 r0
      have HL := Lib.hid hl
      have HCR := Lib.hid hcr
      have HFR := Lib.hid hfr
      clear hl hcr hfr HR HKB
      go_wp2
      refine bodyPost_ret (v := .tuple #[natv Dr l cr, .int .i64 0]) (by unfold natv; simp [results, Try.results46, go_sem, q2]) rfl ?_
      have hb8 := BO3.out.below.setCell (p := ⟨w.heap.size + 1 + 1, 0, none⟩) (by simp; omega) (.slice Dr l cr)
      exact ⟨.inl ⟨by rw [← HL.out]; exact h64, Dr, cr, by rw [← HL.out], by rw [← HL.out]; exact hlc, by rw [← HL.out]; exact HCR.out.set_ HFR.out (Nat.lt_succ_self _) _ _, HFR.out.mono (by omega)⟩, hb8⟩
    · have H64 := Lib.hid h64
      clear h64 HR HKB
      go_wp2
      refine bodyPost_ret (v := .tuple #[natv none 0 0, .int .i64 9]) (by unfold natv; simp [results, Try.results46, go_sem, q2]) rfl ?_
      exact ⟨.inr ⟨H64.out, rfl⟩, BO3.out.below.setCell (p := ⟨w.heap.size + 1 + 1, 0, none⟩) (by simp; omega) _⟩
end Go.Proofs.Ytiflmnmkmpjecaa
