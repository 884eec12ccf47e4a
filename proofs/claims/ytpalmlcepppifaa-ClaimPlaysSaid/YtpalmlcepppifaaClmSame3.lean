/- same, whatever the act: true, and the two stay in one state. -/
import Derived.Test.YtpalmlcepppifaaClmSame2
set_option linter.unusedVariables false
namespace Go.Proofs.Ytpalmlcepppifaa
open Go.RowKit Go.Maps Go.ChangeShapes Go.WideElems Go.WideMaps

theorem Sd.stepA {W w1 w' : World} {P : World → Prop} {q h r n n' : Nat} {a : Ac} {N N' : Nat → ByteArray} {A F E S A' F' E' S' : Nat → Int} {v : Value} {e : Ending} (s : Sd W P (fun w => Refs W.heap.size w r n N A F E S) q a w1) (k : CLeft W.heap.size w1 h n' N' A' F' E' S' v e w') :
    e = .returned v ∧ Sd W (fun w => Claims W.heap.size w h n' N' A' F' E' S') (fun w => Refs W.heap.size w r n N A F E S) q a w' :=
  ⟨k.1, k.2.1, s.r.kp k.2.2.2, s.below.trans k.2.2.1, act_kept s.blk k.2.2.2⟩
theorem Sd.stepB {W w1 w' : World} {R : World → Prop} {q h r n n' : Nat} {a : Ac} {N N' : Nat → ByteArray} {A F E S A' F' E' S' : Nat → Int} {v : Value} {e : Ending} (s : Sd W (fun w => Claims W.heap.size w h n N A F E S) R q a w1) (k : FLeft W.heap.size w1 r n' N' A' F' E' S' v e w') :
    e = .returned v ∧ Sd W (fun w => Claims W.heap.size w h n N A F E S) (fun w => Refs W.heap.size w r n' N' A' F' E' S') q a w' :=
  ⟨k.1, s.p.kr k.2.2.2, k.2.1, s.below.trans k.2.2.1, act_kr s.blk k.2.2.2⟩
theorem same_any {W w : World} {h r n : Nat} {N : Nat → ByteArray} {A F E S : Nat → Int} {a : Ac} (b : Both W w h r n N A F E S) (hn : n < 8192) (hs : a.nm.size ≤ maxLen) :
    Calls Try.prog 39 #[.pointer (some ⟨h, 0, none⟩), .pointer (some ⟨r, 0, none⟩), .agg #[.int .i64 a.k, .string a.nm, .int .i64 a.am, .int .i64 a.fr, .int .i64 a.ex, .int .i64 a.at_, .int .i64 a.mo]] w fun e w' => e = .returned (.bool true) ∧ ∃ (n' : Nat) (N' : Nat → ByteArray) (A' F' E' S' : Nat → Int), n' ≤ n + 1 ∧ Both W w' h r n' N' A' F' E' S' := by
  have sP : Stays (fun w => Claims W.heap.size w h n N A F E S) := fun w w1 p k => p.keep k
  have sR : Stays (fun w => Refs W.heap.size w r n N A F E S) := fun w w1 p k => p.keep k
  by_cases k0 : a.k = 0
  · by_cases hy : aerr a.nm.size a.am a.fr a.ex = 0
    · obtain ⟨y0, y1, y2, y3, y4, y5, y6⟩ := aerr_ok hy
      refine (same_add (P1 := fun w => Claims W.heap.size w h (n + 1) (upd N n a.nm) (upd A n a.am) (upd F n a.fr) (upd E n a.ex) (upd S n 0)) (R1 := fun w => Refs W.heap.size w r (n + 1) (upd N n a.nm) (upd A n a.am) (upd F n a.fr) (upd E n a.ex) (upd S n 0)) (y := 0) k0 sP sR b.obj b.ref b.below
        (fun w1 q s => (add_yes s.p hn s.below.size y0 y1 y2 y3 y4 y5 y6).mono fun e w' k => s.stepA k)
        (fun w1 q s => (add_yes s.p hn s.below.size y0 y1 y2 y3 y4 y5 y6).mono fun e w' k => s.stepA k)
        (fun w1 q s => (radd_ok s.r hn s.below.size y0 y1 y2 y3 y4 y5 y6).mono fun e w' k => s.stepB k)
        (fun w1 q s => (radd_ok s.r hn s.below.size y0 y1 y2 y3 y4 y5 y6).mono fun e w' k => s.stepB k)).mono ?_
      rintro e w' ⟨rfl, h1, h2, h3⟩
      exact ⟨rfl, _, _, _, _, _, _, Nat.le_refl _, h1, h2, h3⟩
    · refine (same_add (y := aerr a.nm.size a.am a.fr a.ex) k0 sP sR b.obj b.ref b.below
        (fun w1 q s => (add_bad rfl hy).mono fun e w' k => ⟨k.1, k.2 ▸ s⟩)
        (fun w1 q s => (add_bad rfl hy).mono fun e w' k => ⟨k.1, k.2 ▸ s⟩)
        (fun w1 q s => (radd_bad rfl hy).mono fun e w' k => ⟨k.1, k.2 ▸ s⟩)
        (fun w1 q s => (radd_bad rfl hy).mono fun e w' k => ⟨k.1, k.2 ▸ s⟩)).mono ?_
      rintro e w' ⟨rfl, h1, h2, h3⟩
      exact ⟨rfl, _, _, _, _, _, _, Nat.le_succ _, h1, h2, h3⟩
  · by_cases k1 : a.k = 1
    · refine (same_check k1 sP sR b.obj b.ref b.below
        (fun w1 q s => (check_any s.p hs).mono fun e w' k => ⟨k.1, s.keep sP sR k.2⟩)
        (fun w1 q s => (rcheck_any s.r).mono fun e w' k => ⟨k.1, s.keep sP sR k.2⟩)).mono ?_
      rintro e w' ⟨rfl, h1, h2, h3⟩
      exact ⟨rfl, _, _, _, _, _, _, Nat.le_succ _, h1, h2, h3⟩
    · by_cases k2 : a.k = 2
      · refine (same_claim (P1 := fun w => Claims W.heap.size w h n N A F E (clS A F E S a.at_ a.mo (idx N a.nm n))) (R1 := fun w => Refs W.heap.size w r n N A F E (clS A F E S a.at_ a.mo (idx N a.nm n))) k2 sP sR b.obj b.ref b.below
          (fun w1 q s => (claim_any s.p s.below.size hs).mono fun e w' k => s.stepA k)
          (fun w1 q s => (rclaim_any s.r s.below.size).mono fun e w' k => s.stepB k)).mono ?_
        rintro e w' ⟨rfl, h1, h2, h3⟩
        exact ⟨rfl, _, _, _, _, _, _, Nat.le_succ _, h1, h2, h3⟩
      · refine (same_exp (P1 := fun w => Claims W.heap.size w h n N A F E (Cm.oldS E S a.at_ n)) (R1 := fun w => Refs W.heap.size w r n N A F E (Cm.oldS E S a.at_ n)) ⟨k0, k1, k2⟩ sP sR b.obj b.ref b.below
          (fun w1 q s => (expire_any s.p s.below.size).mono fun e w' k => s.stepA k)
          (fun w1 q s => (expire_any s.p s.below.size).mono fun e w' k => s.stepA k)
          (fun w1 q s => (rexpire_any s.r s.below.size).mono fun e w' k => s.stepB k)
          (fun w1 q s => (rexpire_any s.r s.below.size).mono fun e w' k => s.stepB k)).mono ?_
        rintro e w' ⟨rfl, h1, h2, h3⟩
        exact ⟨rfl, _, _, _, _, _, _, Nat.le_succ _, h1, h2, h3⟩
end Go.Proofs.Ytpalmlcepppifaa
