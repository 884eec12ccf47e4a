/- The walk of fairness.product. -/
import Derived.Test.YtiflmnmkmpjecaaFaPow
import Derived.Test.YtiflmnmkmpjecaaFaSeq
set_option linter.unusedVariables false
namespace Go.Proofs.Ytiflmnmkmpjecaa
open Go.RowKit
namespace Fa
open Fr
/-- The product of the first numbers. -/
def pr (X : Nat → Nat) : Nat → Nat
  | 0 => 1
  | i + 1 => pr X i * X i
set_option maxHeartbeats 8000000 in
set_option maxRecDepth 100000 in
theorem product_any {A : Option Addr} {n c : Nat} {G : Nat → Value} {X : Nat → Nat} {w : World} (hn : n ≤ 1000) (hA : Cells w A n G) (hX : ∀ i, i < n → El w (G i) (X i)) (hx64 : ∀ i, i < n → L32 (X i) ≤ 64) (hfit : ∀ i, i ≤ n → L32 (pr X i) ≤ 64) :
    Calls Try.prog 54 #[.slice A n c] w fun e w' => Num1 w.heap.size w' e (pr X n) ∧ Below w.heap.size w w' := by
  have BS0 := Lib.hid (box1z w (.slice none 0 0))
  have HA := Lib.hid hA
  have HX := Lib.hid hX
  have HX64 := Lib.hid hx64
  have HFIT := Lib.hid hfit
  clear hA hX hx64 hfit
  go_enter Try.func54, Try.ntmps54
  go_wp2_with fail
  refine (of_new 1 (by omega) _).mono ?_
  rintro e w2 ⟨D0, c0, rfl, _, hc0, hf0, hb2⟩
  obtain ⟨l0, hl0⟩ : ∃ l, l = L32 1 := ⟨_, rfl⟩
  rw [← hl0] at hc0 ⊢
  have HL0 : Hid (l0 = L32 (pr X 0)) := Lib.hid (by rw [hl0, pr])
  have BS2 := (BS0.out.on hb2).alloc TN #[.slice D0 l0 c0]
  have HC0 : Hid (Cells (w2.alloc (.cells #[.slice D0 l0 c0] TN)) D0 l0 (Lm (d32 (pr X 0)))) := Lib.hid (by rw [pr]; exact hc0.alloc _)
  obtain ⟨wa, hwa⟩ : ∃ wa, wa = w2.alloc (.cells #[.slice D0 l0 c0] TN) := ⟨_, rfl⟩
  obtain ⟨pb, hpb⟩ : ∃ b, b = w2.heap.size := ⟨_, rfl⟩
  obtain ⟨z, hz⟩ : ∃ b, b = w.heap.size := ⟨_, rfl⟩
  have hzp : z ≠ pb := by have := ((BS0.out.on hb2).get (.head _)).2.1; omega
  have hpw : w.heap.size ≤ pb := by have := (BS0.out.on hb2).below.size; omega
  have hzw : w.heap.size ≤ z := by omega
  have HF0 : Hid (Fresh (z + 1) D0) := Lib.hid (hf0.mono (by rw [World.size_alloc]; omega))
  rw [← hwa] at BS2 HC0
  rw [← hpb, ← hz] at BS2
  have BSL := Lib.hid BS2
  clear BS2 hc0 hf0 hl0 hb2 BS0
  go_wp2
  change Code.wp _ _ _ _ (w2.alloc (.cells #[.slice D0 l0 c0] TN))
  rw [← hwa]
  rw [show (Value.pointer (some ⟨w2.heap.size, 0, none⟩)) = .pointer (some ⟨pb, 0, none⟩) by rw [hpb], show (Value.pointer (some ⟨w.heap.size, 0, none⟩)) = .pointer (some ⟨z, 0, none⟩) by rw [hz]]
  clear hwa hpb hz
  go_loopw [12] (fun s12 wr => ∃ (k : Nat) (D : Option Addr) (l d : Nat), k ≤ n ∧ s12 = .int .i64 (k : Int) ∧ Hid (l = L32 (pr X k)) ∧ Hid (Cells wr D l (Lm (d32 (pr X k)))) ∧ Hid (Fresh (z + 1) D) ∧ Hid (Bs w wr [(pb, TN, #[.slice D l d]), (z, TN, #[.slice none 0 0])])) (fun i _ => n - (intOf i).toNat)
  case atStart => exact ⟨0, D0, l0, c0, Nat.zero_le _, rfl, HL0, HC0, HF0, BSL⟩
  case round =>
    clear HL0 HC0 HF0 BSL
    obtain ⟨k, D, l, d, hk, rfl, HL, HC, HF, HBS⟩ := hrel
    have qp : wr.cell? ⟨pb, 0, none⟩ = some (.slice D l d) := (HBS.out.get (.head _)).2.2.cell 0
    have lp := (HBS.out.get (.head _)).2.1
    by_cases hkn : k < n
    · have HKN := Lib.hid hkn
      obtain ⟨b1, o1, hA1, hlt1, hc1⟩ := cells_at (HA.out.below HBS.out.below) hkn
      obtain ⟨Dx, lx, cx, hG, hlx, hcx⟩ := (HX.out k hkn).below HBS.out.below
      rw [hG] at hc1
      subst hA1
      have HLX := Lib.hid hlx
      have HCX := Lib.hid (hcx.alloc (.cells #[.slice Dx lx cx] TN))
      have HC2 := Lib.hid (HC.out.alloc (.cells #[.slice Dx lx cx] TN))
      have l64 : l ≤ 64 := by rw [HL.out]; exact HFIT.out k (by omega)
      have lx64 : lx ≤ 64 := by rw [hlx]; exact HX64.out k hkn
      have BS3 := Lib.hid (HBS.out.alloc TN #[.slice Dx lx cx])
      clear hG hlx hcx HC HBS hkn
      go_wp2_with fail
      refine (mul_any (x := pr X k) (y := X k) l64 lx64 HL.out HLX.out HC2.out HCX.out).mono ?_
      rintro e w4 ⟨hr, hb⟩
      rcases hr with ⟨_, Dn, cn, rfl, _, hcn, hfn⟩ | ⟨h9, _⟩
      case inr => exact absurd h9 (by have := HFIT.out (k + 1) HKN.out; rw [pr] at this; omega)
      obtain ⟨ln, hln⟩ : ∃ l, l = L32 (pr X k * X k) := ⟨_, rfl⟩
      rw [← hln] at hcn ⊢
      have HLN : Hid (ln = L32 (pr X (k + 1))) := Lib.hid (by rw [hln, pr])
      have HCN : Hid (Cells w4 Dn ln (Lm (d32 (pr X (k + 1))))) := Lib.hid (by rw [pr]; exact hcn)
      have BS4 := Lib.hid (BS3.out.on hb)
      have HFN := Lib.hid (hfn.mono (show z + 1 ≤ _ from (BS3.out.get (.tail _ (.tail _ (.head _)))).2.1))
      have HFP := Lib.hid (show Apart pb Dn from Apart.of_fresh hfn (BS3.out.get (.tail _ (.head _))).2.1)
      clear hln hcn hfn hb qp lp BS3
      obtain ⟨_, lb, kb⟩ := BS4.out.get (.tail _ (.head _))
      have qb : w4.cell? ⟨pb, 0, none⟩ = some (.slice D l d) := kb.cell 0
      have fb : w4.frozen? ⟨pb, 0, none⟩ = false := kb.frozen 0
      clear kb
      unfold natv
      go_wp2
      go_roundw
      case rel =>
        refine ⟨k + 1, Dn, ln, cn, HKN.out, by go_num, HLN, ?_, HFN, ?_⟩
        · exact Lib.hid ((HCN.out.apart HFP.out 0 _).alloc _)
        · refine Lib.hid (((Bs.put (cs := #[.slice D l d]) (BS4.out.sub fun x hx => .tail _ hx) ?_ 0 _).alloc _ _).sub fun x hx => .tail _ hx)
          intro b' t' cs' hb
          simp at hb
          omega
      case measure => have := HKN.out; simp [intOf] <;> omega
    · obtain rfl : k = n := by omega
      obtain ⟨_, lz, kz⟩ := HBS.out.get (.tail _ (.head _))
      have qz : wr.cell? ⟨z, 0, none⟩ = some (.slice none 0 0) := kz.cell 0
      have fz : wr.frozen? ⟨z, 0, none⟩ = false := kz.frozen 0
      have HB7 := Lib.hid HBS.out.below
      clear kz
      go_wp2
      refine bodyPost_ret (v := .tuple #[.agg #[.slice D l d], .int .i64 0]) (by simp [results, Try.results54, go_sem, qz]) rfl ?_
      exact ⟨⟨D, l, d, rfl, HL.out, HC.out.set_ HF.out (Nat.lt_succ_self z) _ _, HF.out.mono (by omega)⟩, bse HB7.out hzw _ _⟩
end Fa
end Go.Proofs.Ytiflmnmkmpjecaa
