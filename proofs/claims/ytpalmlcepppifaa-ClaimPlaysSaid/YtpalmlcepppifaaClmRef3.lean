/- The walk of the reference's Add. -/
import Derived.Test.YtpalmlcepppifaaClmRef2
set_option linter.unusedVariables false
namespace Go.Proofs.Ytpalmlcepppifaa
open Go.RowKit Go.ChangeShapes

theorem Try.infoPrizeR : (Try.prog.info? 98).map (fun i => (i.zero, i.size, i.bytes)) = some (some (.agg #[.string ⟨#[]⟩, .int .i64 0, .int .i64 0, .int .i64 0, .int .i64 0]), 5, 48) := by kernel_rfl
theorem bytes_ne {s : ByteArray} (h : 1 ≤ s.size) : s.toList.isEmpty = false := by
  obtain ⟨⟨l⟩⟩ := s
  have e : (ByteArray.mk ⟨l⟩).size = l.length := rfl
  rw [ByteArray.toList_eq]
  cases l with
  | nil => rw [e] at h; simp at h
  | cons x l => rfl
theorem bytes_eq {s : ByteArray} (h : s.size < 1) : s.toList.isEmpty = true := by
  obtain ⟨⟨l⟩⟩ := s
  have e : (ByteArray.mk ⟨l⟩).size = l.length := rfl
  rw [ByteArray.toList_eq]
  cases l with
  | nil => rfl
  | cons x l => rw [e] at h; simp at h

set_option maxHeartbeats 4000000 in
set_option maxRecDepth 100000 in
theorem radd_ok {B : Nat} {w : World} {h n : Nat} {N : Nat → ByteArray} {A F E S : Nat → Int} (c : Refs B w h n N A F E S) (hn : n < 8192) {s : ByteArray} {a f t : Int} (hBw : B ≤ w.heap.size)
    (s0 : 1 ≤ s.size) (s1 : s.size ≤ 24) (a0 : 1 ≤ a) (a1 : a ≤ 1000000000000) (f0 : 0 ≤ f) (f1 : f ≤ t) (t1 : t ≤ 1073741824) :
    Calls Try.prog 58 #[.pointer (some ⟨h, 0, none⟩), .string s, .int .i64 a, .int .i64 f, .int .i64 t] w (FLeft B w h (n + 1) (upd N n s) (upd A n a) (upd F n f) (upd E n t) (upd S n 0) (.int .i64 0)) := by
  obtain ⟨i0, hi, hz0, hz1, hz2⟩ := info_parts Try.infoPrizeR
  obtain ⟨v, c⟩ := c
  obtain ⟨pA, pc, rfl, _⟩ := own_slice c.own
  have q0 := c.blk.cell 0
  have g0 := c.blk.frozen 0
  simp at q0
  have hlt := c.blk.lt
  have hpvh := c.pvh
  have hown : (w.alloc (.cells #[.string s, .int .i64 a, .int .i64 f, .int .i64 t, .int .i64 0] 98)).ownsRow B 98 5 (.slice pA n pc) n (row (n * 5) (Five N A F E S)) := own_keep c.own ((Below.refl _ _).alloc (Nat.le_refl _) _)
  have HOWN := Lib.hid hown
  have HC := Lib.hid c
  have HPVH := Lib.hid hpvh
  have hsn := bytes_ne s0
  clear hown c hpvh
  go_enter Try.func58, Try.ntmps58
  go_wp2_with (at_builtin; refine wpList_append_lies _ rfl _ _ 94 rfl B 98 i0 (.agg #[.string ⟨#[]⟩, .int .i64 0, .int .i64 0, .int .i64 0, .int .i64 0]) 5 48 Try.underlying94 hi hz0 hz1 hz2 rfl (by omega) (.slice pA n pc) n (row (n * 5) (Five N A F E S)) (by rfl) HOWN.out ⟨w.heap.size, 0, none⟩ 1 1 [.string s, .int .i64 a, .int .i64 f, .int .i64 t, .int .i64 0] (by rfl) rfl ?c1 ?c2 (by omega) ?c3 ?c4 ?c5 (w.heap.size + 1) ?c6 ?_)
  case c1 =>
    intro j u hj
    exact new_cell rfl (by simpa using hj)
  case c2 => intro u hu; simp at hu; rcases hu with rfl | rfl | rfl | rfl | rfl <;> rfl
  case c3 => unfold maxLen; omega
  case c4 => omega
  case c5 => simp; omega
  case c6 => simp
  intro g cap w3 hown1 hgrow hat hlt3
  have hblk1 : Blk w3 h 96 #[.slice pA n pc] := (HC.out.blk.alloc _).grown hgrow (fun e => HPVH.out e.symm)
  have r0 := hblk1.cell 0
  have k0 := hblk1.frozen 0
  simp at r0
  have hwa : Below w.heap.size w (w.alloc (.cells #[.string s, .int .i64 a, .int .i64 f, .int .i64 t, .int .i64 0] 98)) := (Below.refl _ _).alloc (Nat.le_refl _) _
  have hkp1 : Kr w w3 := (Kr.old hwa).trans (Kr.only hgrow (fun j hj => by
    obtain ⟨cur, hc⟩ := own_obj HOWN.out hj
    exact ⟨cur, .inr hc⟩))
  have hbl1 : Below B w w3 := own_below ((Below.refl B w).alloc hBw _) HOWN.out (by simp; omega) hgrow
  have hgh : g ≠ h := by
    rcases hat with e | e
    · intro e2; subst e2; exact HPVH.out e
    · omega
  have hset : w3.grownBy (w3.setCell ⟨h, 0, none⟩ (.slice (some ⟨g, 0, none⟩) (n + 1) cap)) (some h) := only_set (only_refl w3 h) 0 _
  have hblk3 : Blk (w3.setCell ⟨h, 0, none⟩ (.slice (some ⟨g, 0, none⟩) (n + 1) cap)) h 96 #[.slice (some ⟨g, 0, none⟩) (n + 1) cap] := hblk1.set_ 0 _
  have hown3 := hown1.kept hset (.inr (by intro e; injection e with e; exact hgh e))
  rw [← row_next5] at hown3
  have hR : Refs B (w3.setCell ⟨h, 0, none⟩ (.slice (some ⟨g, 0, none⟩) (n + 1) cap)) h (n + 1) (upd N n s) (upd A n a) (upd F n f) (upd E n t) (upd S n 0) := by
    refine ⟨_, hblk3, hown3, HC.out.hB, by omega, fun i hi => ?_, fun i hi => ?_⟩
    · by_cases e : i = n
      · subst e; rw [upd_same]; exact ⟨a0, a1⟩
      · rw [upd_ne _ _ e]; exact HC.out.st i (by omega)
    · by_cases e : i = n
      · subst e; rw [upd_same]; exact ⟨by omega, by omega⟩
      · rw [upd_ne _ _ e]; exact HC.out.ss i (by omega)
  have hkp3 := hkp1.trans (Kr.only hset (fun j hj => by injection hj with hj; subst hj; exact ⟨_, .inl hblk1⟩))
  have hbl3 := hbl1.setCell (p := ⟨h, 0, none⟩) HC.out.hB (.slice (some ⟨g, 0, none⟩) (n + 1) cap)
  have HF := Lib.hid (And.intro hR (And.intro hbl3 hkp3))
  have hlt4 := hblk1.lt
  clear hwa hkp1 hbl1 hset hblk3 hown3 hR hkp3 hbl3 hblk1 hown1 hgrow hat q0 g0
  go_wp2
  go_ret
  exact ⟨rfl, HF.out⟩

theorem radd_bad {w : World} {h : Nat} {s : ByteArray} {a f t y : Int} (hy : aerr s.size a f t = y) (hn : y ≠ 0) :
    Calls Try.prog 58 #[.pointer (some ⟨h, 0, none⟩), .string s, .int .i64 a, .int .i64 f, .int .i64 t] w fun e w' => e = .returned (.int .i64 y) ∧ w = w' := by
  unfold aerr at hy
  by_cases c : s.size < 1 ∨ 24 < s.size
  · rw [if_pos c] at hy
    subst hy
    rcases c with c | c
    · have hsn := bytes_eq c
      go_enter Try.func58, Try.ntmps58
      go_wp2
      go_ret
      exact ⟨rfl, rfl⟩
    · have hsn := bytes_ne (s := s) (by omega)
      go_enter Try.func58, Try.ntmps58
      go_wp2
      go_ret
      exact ⟨rfl, rfl⟩
  · rw [if_neg c] at hy
    have c0 : 1 ≤ s.size := by omega
    have c1 : s.size ≤ 24 := by omega
    have hsn := bytes_ne c0
    by_cases d : a < 1 ∨ 1000000000000 < a ∨ f < 0 ∨ t < f ∨ 1073741824 < t
    · rw [if_pos d] at hy
      subst hy
      clear c hn
      have d2 : a < 1 ∨ (1 ≤ a ∧ 1000000000000 < a) ∨ (1 ≤ a ∧ a ≤ 1000000000000 ∧ f < 0) ∨ (1 ≤ a ∧ a ≤ 1000000000000 ∧ 0 ≤ f ∧ t < f) ∨ (1 ≤ a ∧ a ≤ 1000000000000 ∧ 0 ≤ f ∧ f ≤ t ∧ 1073741824 < t) := by omega
      clear d
      rcases d2 with d | ⟨d0, d⟩ | ⟨d0, d1, d⟩ | ⟨d0, d1, d2, d⟩ | ⟨d0, d1, d2, d3, d⟩
      all_goals
        go_enter Try.func58, Try.ntmps58
        go_wp2
        go_ret
        exact ⟨rfl, rfl⟩
    · rw [if_neg d] at hy; exact absurd hy.symm hn
end Go.Proofs.Ytpalmlcepppifaa
