/- Blocks known whole; the walks of nat.divideSmall and nat.copied. -/
import Derived.Test.YteclghokkdkolaaNatUint
import Derived.Test.YteclghokkdkolaaNum2
set_option linter.unusedVariables false
namespace Go.Proofs.Yteclghokkdkolaa
open Go.RowKit

/-- Block g is M cells, cell j holds F j. -/
def Arr (w : World) (g : Nat) (t : TypeId) (M : Nat) (F : Nat → Value) : Prop := Blk w g t (row M F).toArray
theorem Arr.at_ {w : World} {g : Nat} {t : TypeId} {M k : Nat} {F : Nat → Value} (h : Arr w g t M F) (hk : k < M) : w.cell? ⟨g, k, none⟩ = some (F k) ∧ w.frozen? ⟨g, k, none⟩ = false := by
  refine ⟨(Blk.cell h k).trans ?_, Blk.frozen h k⟩
  simp [row_get hk]
theorem Arr.put {w : World} {g : Nat} {t : TypeId} {M k : Nat} {F F' : Nat → Value} {u : Value} (h : Arr w g t M F) (hF : ∀ j, j < M → F' j = if j = k then u else F j) : Arr (w.setCell ⟨g, k, none⟩ u) g t M F' ∧ w.grownBy (w.setCell ⟨g, k, none⟩ u) (some g) := by
  refine ⟨?_, only_set (only_refl w g) k u⟩
  have := Blk.set_ h k u
  unfold Arr
  rw [← row_set hF]
  rw [List.setIfInBounds_toArray] at this
  exact this
theorem Arr.congr {w : World} {g : Nat} {t : TypeId} {M : Nat} {F F' : Nat → Value} (h : Arr w g t M F) (hF : ∀ j, j < M → F j = F' j) : Arr w g t M F' := by
  unfold Arr; rw [← row_congr hF]; exact h
theorem Arr.cells {w : World} {g : Nat} {t : TypeId} {M n o : Nat} {F : Nat → Value} (h : Arr w g t M F) (hn : o + n ≤ M) : Cells w (some ⟨g, o, none⟩) n (fun j => F (o + j)) := fun _ =>
  ⟨g, o, rfl, Blk.lt h, fun j hj => (h.at_ (by omega)).1⟩
theorem Arr.of_own {w : World} {base g : Nat} {e : TypeId} {n cap : Nat} {F : Nat → Value} (h : w.ownsRow base e 1 (.slice (some ⟨g, 0, none⟩) n cap) n (row (n * 1) F)) :
    ∃ F', Arr w g e cap F' ∧ n ≤ cap ∧ base ≤ g ∧ ∀ j, j < n → F' j = F j := by
  rcases h.2 with ⟨h', _⟩ | ⟨g', cap', cur, h', hb, hg, hnc, _, hcs, htake⟩
  · simp at h'
  · simp only [Value.slice.injEq, Option.some.injEq, Addr.mk.injEq, and_true, true_and] at h'
    obtain ⟨rfl, rfl⟩ := h'
    rw [Nat.mul_one] at hcs htake
    have hcur : cur.toList = row cap (fun j => cur.toList.getD j undef) := by
      apply List.ext_getElem?
      intro j
      by_cases hj : j < cap
      · rw [row_get hj, List.getD_eq_getElem?_getD, List.getElem?_eq_getElem (by simpa [hcs] using hj)]; rfl
      · rw [List.getElem?_eq_none (by simp [hcs]; omega), List.getElem?_eq_none (by rw [row_length]; omega)]
    refine ⟨fun j => cur.toList.getD j undef, ?_, hnc, hb, fun j hj => ?_⟩
    · unfold Arr Blk
      rw [← hcur]
      exact hg
    · have h1 : (cur.toList.take n)[j]? = some (F j) := by
        rw [htake]
        exact row_get (by omega)
      rw [List.getElem?_take, if_pos hj] at h1
      show cur.toList.getD j undef = F j
      rw [List.getD_eq_getElem?_getD, h1]; rfl

theorem grown_on {a b c : World} {r : Option Nat} (h : a.grownBy b r) (k : b.grownBy c r) : a.grownBy c r :=
  ⟨k.os.trans h.os, k.tape.trans h.tape, k.output.trans h.output, Nat.le_trans h.size k.size, fun i hi hne => (k.block i (Nat.lt_of_lt_of_le hi h.size) hne).trans (h.block i hi hne)⟩
theorem or_hi (a b : Nat) (ha : a < 4294967296) (hb : b < 4294967296) : bits .or .u64 ((a : Int) * 4294967296) (b : Int) = ((a * 4294967296 + b : Nat) : Int) := by
  have h := Go.bits_or_u64_nat (a * 4294967296) b (by omega) (by omega)
  have h2 := Nat.two_pow_add_eq_or_of_lt (i := 32) (b := b) (by omega) a
  rw [show (2 : Nat) ^ 32 = 4294967296 by rfl] at h2
  rw [show ((a : Int) * 4294967296) = ((a * 4294967296 : Nat) : Int) by omega, h, Nat.mul_comm a, ← h2]

/-- The rest of N above digit k, divided by d. -/
def rest (N d k : Nat) : Nat := N / 4294967296 ^ k % d
theorem rest_lt {N d k : Nat} (hd : 0 < d) : rest N d k < d := Nat.mod_lt _ hd
theorem rest_end (N d : Nat) : rest N d 0 = N % d := by simp [rest]
theorem rest_top {N d n : Nat} (h : Fit32 N n) : rest N d n = 0 := by
  unfold rest; rw [Nat.div_eq_of_lt h, Nat.zero_mod]
theorem rest_quo {N d k : Nat} (hd : 0 < d) : (rest N d (k + 1) * 4294967296 + d32 N k) / d = d32 (N / d) k := (Nt.small_quo (by omega) hd).symm
theorem rest_mod {N d k : Nat} (hd : 0 < d) : (rest N d (k + 1) * 4294967296 + d32 N k) % d = rest N d k := (Nt.small_rem (by omega) hd).symm
/-- The limbs behind the division of those from k on. -/
def dcell (N d n : Nat) (F : Nat → Value) (k t : Nat) : Value := if t < k then .int .u32 (d32 N t : Int) else if t < n then .int .u32 (d32 (N / d) t : Int) else F t
theorem dcell_next {N d n k : Nat} (F : Nat → Value) (hk : k < n) (t : Nat) : dcell N d n F k t = if t = k then .int .u32 (d32 (N / d) k : Int) else dcell N d n F (k + 1) t := by
  unfold dcell
  by_cases e : t = k
  · subst e; rw [if_neg (by omega), if_pos hk, if_pos rfl]
  · rw [if_neg e]
    by_cases h : t < k
    · rw [if_pos h, if_pos (by omega)]
    · rw [if_neg h, if_neg (show ¬ t < k + 1 by omega)]

set_option maxHeartbeats 1000000 in
set_option maxRecDepth 100000 in
theorem dsmall_any {g n c M N d : Nat} {F : Nat → Value} {w : World} (hn : 0 < n) (hn2 : n ≤ 1000) (hM : n ≤ M) (hd0 : 0 < d) (hd1 : d < 4294967296) (hN : Fit32 N n) (hA : Arr w g 43 M F) (hF : ∀ j, j < n → F j = .int .u32 (d32 N j : Int)) :
    Calls Try.prog 67 #[.slice (some ⟨g, 0, none⟩) n c, .int .u32 (d : Int)] w fun e w' => e = .returned (.int .u32 ((N % d : Nat) : Int)) ∧ Arr w' g 43 M (dcell N d n F 0) ∧ w.grownBy w' (some g) := by
  have HA := Lib.hid (hA.congr (F' := dcell N d n F n) fun j hj => by
    unfold dcell
    by_cases h : j < n
    · rw [if_pos h]; exact hF j h
    · rw [if_neg h, if_neg h])
  have HR := Lib.hid (rest_top (d := d) hN)
  have HE := Lib.hid (rest_end N d)
  clear hA hF hN
  go_enter Try.func67, Try.ntmps67
  go_wp2
  go_loopw [5, 6] (fun r i wr => ∃ k : Nat, k ≤ n ∧ i = .int .i64 ((k : Int) - 1) ∧ r = .int .u64 (rest N d k : Int) ∧ Hid (Arr wr g 43 M (dcell N d n F k)) ∧ Hid (w.grownBy wr (some g))) (fun _ i _ => (intOf i + 1).toNat)
  case atStart => exact ⟨n, Nat.le_refl _, rfl, by rw [HR.out]; rfl, HA, only_refl _ _⟩
  case round =>
    obtain ⟨k, hk, rfl, rfl, HA1, HG1⟩ := hrel
    by_cases hk0 : 0 < k
    · obtain ⟨j, rfl⟩ : ∃ j, k = j + 1 := ⟨k - 1, by omega⟩
      have ej : ((j + 1 : Nat) : Int) - 1 = (j : Int) := by omega
      rw [ej]
      clear ej
      obtain ⟨hc, hf⟩ := HA1.out.at_ (show j < M by omega)
      have hc2 : wr.cell? ⟨g, j, none⟩ = some (.int .u32 (d32 N j : Int)) := by rw [hc]; unfold dcell; rw [if_pos (by omega)]
      clear hc
      have hd := d32_lt N j
      have hr := rest_lt (N := N) (k := j + 1) hd0
      have hq := d32_lt (N / d) j
      have hor := or_hi (rest N d (j + 1)) (d32 N j) (by omega) hd
      obtain ⟨T, hT⟩ : ∃ T, T = rest N d (j + 1) * 4294967296 + d32 N j := ⟨_, rfl⟩
      rw [← hT] at hor
      have hTq : ((T : Nat) : Int) / (d : Int) = (d32 (N / d) j : Int) := by rw [hT]; have := rest_quo (N := N) (k := j) hd0; rw [← this, Int.natCast_ediv]
      have hTr : ((T : Nat) : Int) % (d : Int) = (rest N d j : Int) := by rw [hT]; have := rest_mod (N := N) (k := j) hd0; rw [← this, Int.natCast_emod]
      have hT2 : T ≤ 18446744073709551615 := by omega
      have hr2 := rest_lt (N := N) (k := j) hd0
      clear hT
      go_wp2
      go_roundw
      case rel =>
        rw [hTr]
        have hp := HA1.out.put (k := j) (F' := dcell N d n F j) (u := .int .u32 (d32 (N / d) j : Int)) fun t _ => dcell_next F (by omega) t
        exact ⟨j, by omega, rfl, rfl, hp.1, grown_on HG1.out hp.2⟩
      case measure => simp [intOf]
    · obtain rfl : k = 0 := by omega
      have hr2 := rest_lt (N := N) (k := 0) hd0
      go_wp2
      go_ret
      exact ⟨ret_int (by rw [← HE.out]), HA1.out, HG1.out⟩
end Go.Proofs.Yteclghokkdkolaa
