/- Same on equal lists; the example of the chapter on replicas: works returns true. -/
import Derived.Test.YtdbpbpnbcjbchaaRepStep
set_option linter.unusedVariables false
namespace Go.Proofs.Ytdbpbpnbcjbchaa
open Go.RowKit
namespace Rp
set_option maxHeartbeats 1000000 in
theorem same_yes {D E : Option Addr} {n c c2 : Nat} {F G : Nat → Value} {f : Nat → ByteArray} {w : World} (hn : n ≤ 1024) (hD : Cells w D (n * 1) F) (hE : Cells w E (n * 1) G) (hF : ∀ j, j < n → F j = .string (f j)) (hG : ∀ j, j < n → G j = .string (f j)) :
    Calls Try.prog 13 #[.slice D n c, .slice E n c2] w fun e w' => e = .returned (.bool true) ∧ Dn w w' := by
  have heq : ((n : Int) != (n : Int)) = false := by simp
  have HD := Lib.hid hD
  have HE := Lib.hid hE
  have HF := Lib.hid hF
  have HG := Lib.hid hG
  clear hD hE hF hG
  go_enter Try.func13, Try.ntmps13
  go_wp2
  go_loopw [5] (fun i wr => ∃ k : Nat, k ≤ n ∧ i = .int .i64 k ∧ ∃ q, wr = w.drewN q) (fun i _ => n - (intOf i).toNat)
  case atStart => exact ⟨0, Nat.zero_le _, rfl, 0, rfl⟩
  case round =>
    obtain ⟨k, hk, rfl, q, rfl⟩ := hrel
    by_cases hkn : k < n
    · obtain ⟨b, off, e1, hlt, hc⟩ := HD.out (by omega)
      obtain ⟨b', off', e2, hlt', hc'⟩ := HE.out (by omega)
      subst e1
      subst e2
      have c0 := (hc k (by omega)).trans (by rw [HF.out k hkn])
      have c1 := (hc' k (by omega)).trans (by rw [HG.out k hkn])
      generalize f k = x at c0 c1
      have hq : (x.toList == x.toList) = true := by simp
      clear hc hc'
      go_wp2
      go_quiet (fail)
      go_wp2
      go_roundw
      case rel => exact ⟨k + 1, by omega, by go_num, q + nq, by simp [World.drewN]⟩
      case measure => simp [intOf]; omega
    · obtain rfl : k = n := by omega
      go_wp2
      go_ret
      exact ⟨rfl, q, rfl⟩
/-- Where a law on replicas stands: its object, and all older memory. -/
structure At (W w : World) (h n : Nat) (s : St) : Prop where
  obj : Obj W.heap.size w h n s
  below : Below W.heap.size W w
theorem At.size {W w : World} {h n : Nat} {s : St} (a : At W w h n s) : W.heap.size ≤ w.heap.size := a.below.size
theorem At.did {W w w1 : World} {h n : Nat} {s s' : St} (a : At W w h n s) (d : Did W.heap.size w w1 h n s') : At W w1 h n s' := ⟨d.obj, a.below.trans d.below⟩
theorem At.keep {W w w1 : World} {h n : Nat} {s : St} (a : At W w h n s) (k : Below w.heap.size w w1) : At W w1 h n s := a.did (a.obj.keep k)
theorem At.drawn {W w w1 : World} {h n : Nat} {s : St} (a : At W w h n s) (k : Dn w w1) : At W w1 h n s := a.did (a.obj.did k)
theorem new_at (W : World) {n : Nat} (h1 : 1 ≤ n) (h7 : n ≤ 7) :
    Calls Try.prog 10 #[.int .i64 (n : Int)] W fun e w' => e = .returned (.tuple #[.pointer (some ⟨W.heap.size, 0, none⟩), .int .i64 0]) ∧ At W w' W.heap.size n st0 :=
  (new_ok W h1 h7).mono fun e w' ⟨h2, h3, h4⟩ => ⟨h2, ⟨h3, h4⟩⟩
theorem comm_obj {B : Nat} {w : World} {h n : Nat} {s : St} (o : Obj B w h n s) (hs : s.done.length ≤ 1024) :
    Calls Try.prog 14 #[.pointer (some ⟨h, 0, none⟩)] w fun e w' => ∃ v, e = .returned v ∧ w'.ownsRow w.heap.size 9 1 v s.done.length (row (s.done.length * 1) (Str s.done)) ∧ Below w.heap.size w w' := by
  obtain ⟨lv, cv, c⟩ := o
  exact committed_any c hs
theorem log_obj {B : Nat} {w : World} {h n : Nat} {s : St} (o : Obj B w h n s) {i : Nat} (hi : i < n) :
    Calls Try.prog 21 #[.pointer (some ⟨h, 0, none⟩), .int .i64 (i : Int)] w fun e w' => ∃ v, e = .returned v ∧ w'.ownsRow w.heap.size 9 1 v (s.nd i).log.length (row ((s.nd i).log.length * 1) (Tx (s.nd i).log)) ∧ Below w.heap.size w w' := by
  obtain ⟨lv, cv, c⟩ := o
  exact log_ok c hi
theorem epoch_obj {B : Nat} {w : World} {h n : Nat} {s : St} (o : Obj B w h n s) {i : Nat} (hi : i < n) :
    Calls Try.prog 20 #[.pointer (some ⟨h, 0, none⟩), .int .i64 (i : Int)] w fun e w' => e = .returned (.int .i64 ((s.nd i).ep : Int)) ∧ w = w' := by
  obtain ⟨lv, cv, c⟩ := o
  exact epoch_ok c rfl hi
theorem lim0 : Lim st0 0 := ⟨fun _ => Nat.le_refl _, fun _ => Nat.le_refl _, Nat.le_refl _⟩
def ea : ByteArray := { data := #[97] }
def eb : ByteArray := { data := #[98] }
def u1 : St := (leadO 3 st0 0).2
def u2 : St := (propO 3 u1 0 ea).2.2
def u3 : St := (copyO 3 u2 0 1).2
def u4 : St := (failO 3 u3 0).2
def u5 : St := (leadO 3 u4 2).2
theorem u1_y : (leadO 3 st0 0).1 = 0 := by decide +kernel
theorem u2_y : (propO 3 u1 0 ea).1 = 1 ∧ (propO 3 u1 0 ea).2.1 = 0 ∧ u2.done.length = 0 := by decide +kernel
theorem u3_y : (copyO 3 u2 0 1).1 = 0 ∧ u3.done = [ea] := by decide +kernel
theorem u4_y : (failO 3 u3 0).1 = 0 := by decide +kernel
theorem u5_y : (leadO 3 u4 2).1 = 0 := by decide +kernel
theorem u6_y : (propO 3 u5 2 eb).1 = 2 ∧ (propO 3 u5 2 eb).2.1 = 0 := by decide +kernel
end Rp
end Go.Proofs.Ytdbpbpnbcjbchaa
