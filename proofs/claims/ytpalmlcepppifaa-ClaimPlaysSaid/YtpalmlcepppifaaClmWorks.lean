/- The example of the chapter on claims: works returns true. -/
import Derived.Test.YtpalmlcepppifaaClmClaim
set_option linter.unusedVariables false
namespace Go.Proofs.Ytpalmlcepppifaa
open Go.RowKit Go.Maps Go.ChangeShapes Go.WideElems Go.WideMaps

namespace Cm
theorem lsum_one (p : Nat → Bool) (A : Nat → Int) (h : p 0 = true) : lsum p A [0] = A 0 := by unfold lsum; simp [h]
section
variable {A F E S : Nat → Int} {at_ most : Int}
theorem ck1_early (h0 : S 0 = 0) (h : at_ < F 0) : ckE A F E S at_ most [0] = 8 := by
  unfold ckE
  rw [if_neg (by simp), if_pos (by simp [can]; omega), if_pos (by simp [early, h0, h])]
theorem ck1_late (h0 : S 0 = 0) (h1 : F 0 ≤ at_) (h : E 0 < at_) : ckE A F E S at_ most [0] = 16 := by
  unfold ckE
  rw [if_neg (by simp), if_pos (by simp [can]; omega), if_neg (by simp [early]; omega), if_pos (by simp [late, h0])]
theorem ck1_can (h0 : S 0 = 0) (h1 : F 0 ≤ at_) (h2 : at_ ≤ E 0) : can F E S at_ 0 = true := by simp [can, h0, h1, h2]
theorem ck1_ok (h0 : S 0 = 0) (h1 : F 0 ≤ at_) (h2 : at_ ≤ E 0) (ha : A 0 ≤ 1000000000000) (hm : ¬ (0 < most ∧ most < A 0)) : ckE A F E S at_ most [0] = 0 := by
  have hc := ck1_can h0 h1 h2
  unfold ckE
  rw [if_neg (by simp), if_neg (by simp [hc]), lsum_one _ _ hc, if_neg (by omega), if_neg hm]
theorem ck1_channel (h0 : S 0 = 0) (h1 : F 0 ≤ at_) (h2 : at_ ≤ E 0) (ha : A 0 ≤ 1000000000000) (hm : 0 < most ∧ most < A 0) : ckE A F E S at_ most [0] = 31 := by
  have hc := ck1_can h0 h1 h2
  unfold ckE
  rw [if_neg (by simp), if_neg (by simp [hc]), lsum_one _ _ hc, if_neg (by omega), if_pos hm]
theorem ck1_paid (h0 : S 0 = 1) : ckE A F E S at_ most [0] = 17 := by
  unfold ckE
  rw [if_neg (by simp), if_pos (by simp [can, h0]), if_neg (by simp [early, h0]), if_neg (by simp [late, h0])]
theorem ck1_expired (h0 : S 0 = 2) : ckE A F E S at_ most [0] = 16 := by
  unfold ckE
  rw [if_neg (by simp), if_pos (by simp [can, h0]), if_neg (by simp [early, h0]), if_pos (by simp [late, h0])]
theorem pay_one (h : can F E S at_ 0 = true) : payS F E S at_ [0] 0 = 1 := by unfold payS; rw [if_pos ⟨by simp, h⟩]
end
end Cm
theorem idx_one (N : Nat → ByteArray) (s : ByteArray) : idx (upd N 0 s) s 1 = [0] := by
  simp only [idx]; rw [upd_same, if_pos rfl]; rfl

/-- Add and Claim with their conditions paid. -/
theorem add_yes {B : Nat} {w : World} {h n : Nat} {N : Nat → ByteArray} {A F E S : Nat → Int} (c : Claims B w h n N A F E S) (hn : n < 8192) {s : ByteArray} {a f t : Int} (hBw : B ≤ w.heap.size)
    (s0 : 1 ≤ s.size) (s1 : s.size ≤ 24) (a0 : 1 ≤ a) (a1 : a ≤ 1000000000000) (f0 : 0 ≤ f) (f1 : f ≤ t) (t1 : t ≤ 1073741824) :
    Calls Try.prog 19 #[.pointer (some ⟨h, 0, none⟩), .string s, .int .i64 a, .int .i64 f, .int .i64 t] w (CLeft B w h (n + 1) (upd N n s) (upd A n a) (upd F n f) (upd E n t) (upd S n 0) (.int .i64 0)) := by
  obtain ⟨pv, b1, b2, D, O, c⟩ := c
  refine (add_ok c hn hBw s0 s1 a0 a1 f0 f1 t1).mono ?_
  rintro e w1 ⟨rfl, ⟨pv', D', O', c'⟩, hb, hk⟩
  exact ⟨rfl, ⟨_, _, _, _, _, c'⟩, hb, hk⟩
theorem claim_got {B : Nat} {w : World} {h n : Nat} {N : Nat → ByteArray} {A F E S : Nat → Int} (c : Claims B w h n N A F E S) (hBw : B ≤ w.heap.size) {s : ByteArray} (hs : s.size ≤ maxLen) {at_ most u : Int} {l : List Nat} (hl : idx N s n = l) (hy : Cm.ckE A F E S at_ most l = 0) (hu : Cm.lsum (Cm.can F E S at_) A l = u) :
    Calls Try.prog 20 #[.pointer (some ⟨h, 0, none⟩), .string s, .int .i64 at_, .int .i64 most] w (CLeft B w h n N A F E (Cm.payS F E S at_ l) (.tuple #[.int .i64 u, .int .i64 0])) := by
  subst hl; exact claim_yes c hBw hs hy hu
theorem claim_not {B : Nat} {w : World} {h n : Nat} {N : Nat → ByteArray} {A F E S : Nat → Int} (c : Claims B w h n N A F E S) (hBw : B ≤ w.heap.size) {s : ByteArray} (hs : s.size ≤ maxLen) {at_ most y : Int} {l : List Nat} (hl : idx N s n = l) (hy : Cm.ckE A F E S at_ most l = y) (hn : y ≠ 0) :
    Calls Try.prog 20 #[.pointer (some ⟨h, 0, none⟩), .string s, .int .i64 at_, .int .i64 most] w (CLeft B w h n N A F E S (.tuple #[.int .i64 0, .int .i64 y])) := by
  subst hl; exact claim_no c hBw hs hy hn

def ea : ByteArray := ⟨#[97]⟩
/-- Where a law on claims stands: its object, and all older memory. -/
structure At (W w : World) (h n : Nat) (N : Nat → ByteArray) (A F E S : Nat → Int) : Prop where
  obj : Claims W.heap.size w h n N A F E S
  below : Below W.heap.size W w
theorem At.size {W w : World} {h n : Nat} {N : Nat → ByteArray} {A F E S : Nat → Int} (a : At W w h n N A F E S) : W.heap.size ≤ w.heap.size := a.below.size
theorem At.left {W w w1 : World} {h n n' : Nat} {N N' : Nat → ByteArray} {A F E S A' F' E' S' : Nat → Int} {v : Value} {e : Ending} (a : At W w h n N A F E S) (k : CLeft W.heap.size w h n' N' A' F' E' S' v e w1) : At W w1 h n' N' A' F' E' S' :=
  ⟨k.2.1, a.below.trans k.2.2.1⟩
theorem At.keep {W w w1 : World} {h n : Nat} {N : Nat → ByteArray} {A F E S : Nat → Int} (a : At W w h n N A F E S) (k : Below w.heap.size w w1) : At W w1 h n N A F E S := ⟨a.obj.keep k, Below.on a.below k⟩
theorem new_at (W : World) : Calls Try.prog 18 #[] W fun e w' => ∃ h, e = .returned (.pointer (some ⟨h, 0, none⟩)) ∧ At W w' h 0 (fun _ => ea) (fun _ => 0) (fun _ => 0) (fun _ => 0) (fun _ => 0) := by
  refine (cnew_any W (fun _ => ea) (fun _ => 0) (fun _ => 0) (fun _ => 0) (fun _ => 0)).mono ?_
  rintro e w1 ⟨h, rfl, hc, hb⟩
  exact ⟨h, rfl, hc, hb⟩

set_option maxHeartbeats 1000000 in
theorem works44 (W : World) : Calls Try.prog 21 #[] W fun e w' => e = .returned (.bool true) ∧ Below W.heap.size W w' := by
  go_enter Try.func21, Try.ntmps21
  go_wp2_with fail
  refine (new_at W).mono ?_
  rintro e w1 ⟨h, rfl, ha⟩
  have HA := Lib.hid ha
  clear ha
  go_wp2_with fail
  refine (add_yes (s := ea) HA.out.obj (by omega) HA.out.size (by decide) (by decide) (by omega) (by omega) (by omega) (by omega) (by omega)).mono ?_
  rintro e w2 hk
  obtain rfl := hk.1
  replace HA := Lib.hid (HA.out.left hk)
  clear hk
  go_wp2_with fail
  refine (claim_not (s := ea) (y := 8) HA.out.obj HA.out.size (by decide) (idx_one _ _) (Cm.ck1_early (by rfl) (by decide)) (by decide)).mono ?_
  rintro e w3 hk
  obtain rfl := hk.1
  replace HA := Lib.hid (HA.out.left hk)
  clear hk
  go_wp2_with fail
  refine (claim_got (s := ea) (u := 100) HA.out.obj HA.out.size (by decide) (idx_one _ _) (Cm.ck1_ok (by rfl) (by decide) (by decide) (by decide) (by decide)) (Cm.lsum_one _ _ (Cm.ck1_can (by rfl) (by decide) (by decide)))).mono ?_
  rintro e w4 hk
  obtain rfl := hk.1
  replace HA := Lib.hid (HA.out.left hk)
  clear hk
  go_wp2_with fail
  refine (claim_not (s := ea) (y := 17) HA.out.obj HA.out.size (by decide) (idx_one _ _) (Cm.ck1_paid (Cm.pay_one (Cm.ck1_can (by rfl) (by decide) (by decide)))) (by decide)).mono ?_
  rintro e w5 hk
  obtain rfl := hk.1
  replace HA := Lib.hid (HA.out.left hk)
  clear hk
  go_wp2
  go_ret
  exact ⟨rfl, HA.out.below⟩
end Go.Proofs.Ytpalmlcepppifaa
