/- Format of numbers that are not valid, and of zero; the parsers' answers in the law's forms. -/
import Derived.Test.YthjbkadhgcjnaaaNatRParse
import Derived.Test.YthjbkadhgcjnaaaNatLawForms
import Derived.Test.YthjbkadhgcjnaaaNatWords
import Derived.Deep.RegionHeld3
set_option linter.unusedVariables false
namespace Go.Proofs.Ythjbkadhgcjnaaa
open Go.RowKit

theorem nformat_bad {D : Option Addr} {n c : Nat} {f : Nat → Nat} {w : World} (hn : n ≤ 9223372036854775807) (hx : Cells w D n (Lm f)) (hv : vd n f = false) :
    Calls Try.prog 31 #[.agg #[.slice D n c]] w fun e w' => e = .returned (.string ByteArray.empty) ∧ Below w.heap.size w w' := by
  have HV := Lib.hid hv
  have HB0 := Lib.hid ((Below.refl w.heap.size w).alloc (Nat.le_refl _) (.cells #[.slice D n c] 24))
  clear hv
  go_enter Try.func31, Try.ntmps31
  go_wp2_with fail
  refine (nvalid_is (f := f) hn (hx.below HB0.out) HV.out).mono ?_
  rintro e w1 ⟨rfl, hb1⟩
  have HB1 := Lib.hid (Below.on HB0.out hb1)
  clear hb1
  go_wp2
  go_ret
  exact ⟨rfl, HB1.out⟩
theorem rformat_bad {D : Option Addr} {n c : Nat} {f : Nat → Nat} {w : World} (hn : n ≤ 9223372036854775807) (hx : Cells w D n (Lm f)) (hv : vd n f = false) :
    Calls Try.prog 32 #[.agg #[.slice D n c]] w fun e w' => e = .returned (.string ByteArray.empty) ∧ Below w.heap.size w w' := by
  have HV := Lib.hid hv
  have HB0 := Lib.hid ((Below.refl w.heap.size w).alloc (Nat.le_refl _) (.cells #[.slice D n c] 24))
  clear hv
  go_enter Try.func32, Try.ntmps32
  go_wp2_with fail
  refine (rvalid_is (f := f) hn (hx.below HB0.out) HV.out).mono ?_
  rintro e w1 ⟨rfl, hb1⟩
  have HB1 := Lib.hid (Below.on HB0.out hb1)
  clear hb1
  go_wp2
  go_ret
  exact ⟨rfl, HB1.out⟩
theorem halves_nil {D : Option Addr} {c : Nat} (w : World) :
    Calls Try.prog 44 #[.agg #[.slice D 0 c]] w fun e w' => e = .returned (.slice none 0 0) ∧ Below w.heap.size w w' := by
  have HB0 := Lib.hid ((Below.refl w.heap.size w).alloc (Nat.le_refl _) (.cells #[.slice D 0 c] 24))
  have HZ := Lib.hid (show L16 0 = 0 from L16_zero.2 rfl)
  have HF := Lib.hid (show Fit16 0 0 from fit16_of (by rw [L16_zero.2 rfl]; exact Nat.le_refl _))
  go_enter Try.func44, Try.ntmps44
  go_wp2
  go_loopw [3, 4] (fun s3 s4 wr => s3 = .slice none 0 0 ∧ s4 = .int .i64 0 ∧ Hid (Below w.heap.size w wr) ∧ Hid (Blk wr w.heap.size 24 #[.slice D 0 c])) (fun _ _ _ => 0)
  case atStart => exact ⟨rfl, rfl, HB0, Blk.new w _ _⟩
  case round =>
    obtain ⟨rfl, rfl, HB, HK⟩ := hrel
    have q0 : wr.cell? ⟨w.heap.size, 0, none⟩ = some (.slice D 0 c) := HK.out.cell 0
    go_wp2_with fail
    refine (rtrim_any (m := 0) (N := 0) (D := none) (c := 0) (by omega) (Nat.le_refl _) HF.out Cells.nil).mono ?_
    rintro e w1 ⟨rfl, rfl⟩
    rw [HZ.out]
    go_wp2
    go_ret
    exact ⟨rfl, HB.out⟩
theorem rformat_zero {D : Option Addr} {c : Nat} {w : World} :
    Calls Try.prog 32 #[.agg #[.slice D 0 c]] w fun e w' => e = .returned (.string (Dc.text 0)) ∧ Below w.heap.size w w' := by
  have HB0 := Lib.hid ((Below.refl w.heap.size w).alloc (Nat.le_refl _) (.cells #[.slice D 0 c] 24))
  have HK0 := Lib.hid (Blk.new w 24 #[.slice D 0 c])
  go_enter Try.func32, Try.ntmps32
  go_wp2_with fail
  refine (rvalid_is (f := fun _ => 0) (x := true) (by omega) Cells.nil rfl).mono ?_
  rintro e w1 ⟨rfl, hb1⟩
  have HB1 := Lib.hid (Below.on HB0.out hb1)
  have HK1 := Lib.hid (HK0.out.keep hb1)
  have q0 : w1.cell? ⟨w.heap.size, 0, none⟩ = some (.slice D 0 c) := HK1.out.cell 0
  have hl := HK1.out.lt
  clear hb1
  go_wp2_with fail
  refine (halves_nil _).mono ?_
  rintro e w2 ⟨rfl, hb2⟩
  have HB2 := Lib.hid (Below.on (HB1.out.alloc HB1.out.size (.cells #[] 3)) hb2)
  clear hb2 q0
  go_wp2
  go_loopw [3, 4] (fun s3 s4 wr => s3 = .slice (some ⟨w1.heap.size, 0, none⟩) 0 0 ∧ s4 = .string ⟨#[]⟩ ∧ Hid (Below w.heap.size w wr)) (fun _ _ _ => 0)
  case atStart => exact ⟨rfl, rfl, HB2⟩
  case round =>
    obtain ⟨rfl, rfl, HB⟩ := hrel
    go_wp2
    go_ret
    exact ⟨rfl, HB.out⟩
theorem seven : Dc.text 7 = ⟨#[55]⟩ := by
  have hl : Dc.len 7 = 1 := Nt.len_eq (by omega) (by omega) (.inr (by decide))
  unfold Dc.text Dc.bytes
  rw [if_neg (by omega), hl]
  rfl
end Go.Proofs.Ythjbkadhgcjnaaa
