/- The law FairnessTails. -/
import Derived.Test.YtiflmnmkmpjecaaFaAwake
import Derived.Test.YtiflmnmkmpjecaaFaTail2
import Derived.Test.YtiflmnmkmpjecaaFaTailP
import Derived.Test.YtiflmnmkmpjecaaFaRTail
import Derived.Test.YtiflmnmkmpjecaaFaOpenF
import Derived.Test.YtiflmnmkmpjecaaG12
import Derived.Test.YtiflmnmkmpjecaaRows
set_option linter.unusedVariables false
namespace Go.Proofs.Ytiflmnmkmpjecaa
open Go.RowKit
namespace Fa
open Fr
theorem says_res {W : World} {f : FuncId} {args : Array Value} {p q : Nat} (hp : L32 p ≤ 64) (hq : L32 q ≤ 64) (h : ∀ w', Below W.heap.size W w' → Calls Try.prog f args w' fun e w'' => Res w'.heap.size w'' e p q ∧ Below w'.heap.size w' w'') : Says W f args p q 0 :=
  fun w' hw => (h w' hw).mono fun _ _ ⟨k1, k2⟩ => ⟨Gw.res k1 hp hq, k2⟩
theorem says_err {W : World} {f : FuncId} {args : Array Value} {y : Nat} (h : ∀ w', Below W.heap.size W w' → Calls Try.prog f args w' fun e w'' => Err e y ∧ Below w'.heap.size w' w'') : Says W f args 0 0 (y : Int) :=
  fun w' hw => (h w' hw).mono fun _ _ ⟨k1, k2⟩ => ⟨Gw.err k1, k2⟩
theorem cmp_pos {a d : Nat} (h : d < a) : 0 < cmpI a d := by unfold cmpI; rw [if_neg (by omega), if_pos h]; decide
theorem cmp_npos {a d : Nat} (h : a ≤ d) : cmpI a d ≤ 0 := by
  unfold cmpI
  by_cases h1 : a < d
  · rw [if_pos h1]; decide
  · rw [if_neg h1, if_neg (by omega)]; decide
set_option maxRecDepth 100000 in
theorem tails_says {W : World} {D E : Option Addr} {n0 n1 c0 c1 : Nat} {f g : Nat → Nat} (A : FrArg W D n0 c0 f E n1 c1 g) (n k : Int) :
    ∃ (p q : Nat) (y : Int), Says W 20 #[.int .i64 n, .int .i64 k, fv D n0 c0 E n1 c1] p q y ∧ Says W 21 #[.int .i64 n, .int .i64 k, fv D n0 c0 E n1 c1] p q y := by
  by_cases h0 : n < 0 ∨ 0 ≤ n ∧ 64 < n
  · exact ⟨0, 0, 2, says_err fun w' _ => tail_bad1 w' h0, says_err fun w' _ => rtail_bad1 w' h0⟩
  obtain ⟨n, rfl⟩ := Int.eq_ofNat_of_zero_le (show 0 ≤ n by omega)
  have hn : n ≤ 64 := by omega
  have KV := fun (w : World) (hw : Below W.heap.size W w) => valid_arg A hw
  have RV := fun (w : World) (hw : Below W.heap.size W w) => rvalid_arg A hw
  cases hv : fvd n0 f n1 g with
  | false =>
    rw [hv] at KV RV
    exact ⟨0, 0, 2, says_err fun w' hw => tail_bad2 w' hn fun w'' hw' => KV w'' (Below.on hw hw'), says_err fun w' hw => rtail_bad2 w' hn fun w'' hw' => RV w'' (Below.on hw hw')⟩
  | true =>
    rw [hv] at KV RV
    have N := Fr.FrArg.num A hv
    obtain ⟨a, ha⟩ : ∃ a, a = v32 f n0 := ⟨_, rfl⟩
    obtain ⟨d, hd⟩ : ∃ d, d = v32 g n1 := ⟨_, rfl⟩
    rw [← ha, ← hd] at N
    have hd0 : 0 < d := fok_pos N.ok
    have KC : ∀ w, Below W.heap.size W w → Calls Try.prog 49 #[.agg #[.slice D n0 c0], .agg #[.slice E n1 c1]] w fun e w'' => e = .returned (.int .i64 (cmpI a d)) ∧ Below w.heap.size w w'' := fun w hw => ncmp_any N.n64 N.m64 N.nx N.my (N.cx.below hw) (N.cy.below hw)
    have e1 : L32 1 = 1 := L32_one (by omega) (by omega)
    have RC : ∀ w Da ca Db cb', Cells w Da 1 (Lm (d32 1)) → Cells w Db 1 (Lm (d32 1)) → Below W.heap.size W w → Calls Try.prog 58 #[.agg #[.slice D n0 c0, .slice E n1 c1], .agg #[.slice Da 1 ca, .slice Db 1 cb']] w fun e w'' => e = .returned (.int .i64 (cmpI a d)) ∧ Below w.heap.size w w'' := fun w Da ca Db cb' h1 h2 hw => by
      refine (rfcmp_any (c0 := c0) (c1 := c1) (c2 := ca) (c3 := cb') N.n64 N.m64 (by omega) (by omega) N.nx N.my e1.symm e1.symm (N.cx.below hw) (N.cy.below hw) h1 h2).mono ?_
      rintro e w'' ⟨rfl, hb⟩
      rw [if_pos ⟨N.ok, by decide⟩, Nat.mul_one, Nat.one_mul]
      exact ⟨rfl, hb⟩
    by_cases hgt : d < a
    · exact ⟨0, 0, 2, says_err fun w' hw => tail_bad3 w' hn (fun w'' hw' => KV w'' (Below.on hw hw')) (fun w'' hw' => KC w'' (Below.on hw hw')) (cmp_pos hgt), says_err fun w' hw => rtail_bad3 w' hn (fun w'' hw' => RV w'' (Below.on hw hw')) (fun w'' Da ca Db cb' h1 h2 hw' => RC w'' Da ca Db cb' h1 h2 (Below.on hw hw')) (cmp_pos hgt)⟩
    have had : a ≤ d := by omega
    have hcc := cmp_npos had
    by_cases hk : k ≤ 0
    · refine ⟨_, _, 0, says_res ?_ ?_ fun w' hw => tail_one w' hn (fun w'' hw' => KV w'' (Below.on hw hw')) (fun w'' hw' => KC w'' (Below.on hw hw')) hcc hk rfl rfl, fun w' hw => rtail_one w' hn (fun w'' hw' => RV w'' (Below.on hw hw')) (fun w'' Da ca Db cb' h1 h2 hw' => RC w'' Da ca Db cb' h1 h2 (Below.on hw hw')) hcc hk rfl rfl⟩
      · exact sm64 (by decide)
      · exact sm64 (by decide)
    by_cases hkn : (n : Int) < k
    · refine ⟨_, _, 0, says_res ?_ ?_ fun w' hw => tail_none w' hn (fun w'' hw' => KV w'' (Below.on hw hw')) (fun w'' hw' => KC w'' (Below.on hw hw')) hcc (by omega) hkn rfl rfl, fun w' hw => rtail_none w' hn (fun w'' hw' => RV w'' (Below.on hw hw')) (fun w'' Da ca Db cb' h1 h2 hw' => RC w'' Da ca Db cb' h1 h2 (Below.on hw hw')) hcc (by omega) hkn rfl rfl⟩
      · exact sm64 (by decide)
      · exact sm64 (by decide)
    obtain ⟨k, rfl⟩ := Int.eq_ofNat_of_zero_le (show 0 ≤ k by omega)
    by_cases h64 : L32 (d ^ n) ≤ 64
    · have hT := tail_hT hn had hd0 h64
      have hS := tail_hS (k := k) hn had (by omega) h64
      refine ⟨_, _, 0, says_res ?_ ?_ fun w' hw => tail_in N.n64 N.m64 N.nx N.my (N.cx.below hw) (N.cy.below hw) N.ok had hn (by omega) (by omega) h64 (p64 (pw_le had hd0 (Nat.le_refl n)) h64) (p64 (pw_le (Nat.sub_le d a) hd0 (Nat.le_refl n)) h64) hT hS, says_res ?_ ?_ fun w' hw => rtail_in w' hn (fun w'' hw' => RV w'' (Below.on hw hw')) (fun w'' Da ca Db cb' h1 h2 hw' => RC w'' Da ca Db cb' h1 h2 (Below.on hw hw')) hcc (by omega) (by omega) N.n64 N.m64 N.nx N.my (N.cx.below hw) (N.cy.below hw) hd0 had h64 (fun j hj => ⟨(hT j hj).1, (hT j hj).2.1, by have := (hT j hj).2.2.2.1; rwa [Nat.one_mul] at this, (hT j hj).2.2.2.2⟩) hS⟩
      all_goals first | exact len_div (hS _ (Nat.le_refl _)) | exact len_div h64
    · exact ⟨0, 0, 9, says_err fun w' hw => tail_over w' hn (fun w'' hw' => KV w'' (Below.on hw hw')) (fun w'' hw' => KC w'' (Below.on hw hw')) hcc (by omega) (by omega) N.m64 N.my (N.cy.below hw) (by omega), says_err fun w' hw => rtail_over w' hn (fun w'' hw' => RV w'' (Below.on hw hw')) (fun w'' Da ca Db cb' h1 h2 hw' => RC w'' Da ca Db cb' h1 h2 (Below.on hw hw')) hcc (by omega) (by omega) N.m64 N.my (N.cy.below hw) (by omega)⟩
set_option maxHeartbeats 8000000 in
set_option maxRecDepth 100000 in
theorem tails_law {W : World} {D E : Option Addr} {n0 n1 c0 c1 : Nat} {f g : Nat → Nat} (A : FrArg W D n0 c0 f E n1 c1 g) (n k : Int) :
    Calls Try.prog 6 #[.int .i64 n, .int .i64 k, fv D n0 c0 E n1 c1] W fun e w' => e = .returned (.bool true) ∧ Below W.heap.size W w' := by
  obtain ⟨p, q, y, hk, hr⟩ := tails_says A n k
  have hn9 : n0 ≤ 9223372036854775807 := by have := A.nc; have := A.cm; unfold maxLen at *; omega
  have hm9 : n1 ≤ 9223372036854775807 := by have := A.mc; have := A.cm'; unfold maxLen at *; omega
  unfold Says at hk hr
  unfold fv at hk hr ⊢
  have HK := Lib.hid hk
  have HR := Lib.hid hr
  have hyy : (y == y) = true := by simp
  have BS0 := Lib.hid (boxF1 W (.slice D n0 c0) (.slice E n1 c1))
  have hd : decide ((2 : Int) < (n0 : Int)) = true ∨ decide ((2 : Int) < (n0 : Int)) = false ∧ decide ((2 : Int) < (n1 : Int)) = true ∨ decide ((2 : Int) < (n0 : Int)) = false ∧ decide ((2 : Int) < (n1 : Int)) = false := by
    by_cases h1 : (2 : Int) < (n0 : Int)
    · exact .inl (decide_eq_true h1)
    · by_cases h2 : (2 : Int) < (n1 : Int)
      · exact .inr (.inl ⟨decide_eq_false h1, decide_eq_true h2⟩)
      · exact .inr (.inr ⟨decide_eq_false h1, decide_eq_false h2⟩)
  clear hk hr A
  have AW : Hid (∀ w', Calls Try.prog 11 #[] w' fun e w'' => e = .returned (.bool true) ∧ Below w'.heap.size w' w'') := Lib.hid awake_any
  rcases hd with g1 | ⟨g1, g2⟩ | ⟨g1, g2⟩
  case inr.inr =>
    go_enter Try.func6, Try.ntmps6
    go_wp2_with fail
    (with_reducible refine (HK.out _ BS0.out.below).mono ?_)
    rintro e w2 ⟨⟨D1, l1, y1, E1, m1, k1, rfl, a1, b1, hl, hm, hc, hd⟩, hb⟩
    have BQ2 := Lib.hid (BS0.out.on hb)
    have BS2 := Lib.hid (BQ2.out.alloc TF #[.slice D1 l1 y1, .slice E1 m1 k1])
    have X1 := Lib.hid (hc.alloc (.cells #[.slice D1 l1 y1, .slice E1 m1 k1] TF))
    have Y1 := Lib.hid (hd.alloc (.cells #[.slice D1 l1 y1, .slice E1 m1 k1] TF))
    have L1 := Lib.hid hl
    have M1 := Lib.hid hm
    clear hb hl hm hc hd BS0
    obtain ⟨_, lf, kf⟩ := BQ2.out.get (.head _)
    have qf0 : w2.cell? ⟨W.heap.size, 0, none⟩ = some (.slice D n0 c0) := kf.cell 0
    have qf1 : w2.cell? ⟨W.heap.size, 1, none⟩ = some (.slice E n1 c1) := kf.cell 1
    clear kf BQ2
    go_wp2_with fail
    (with_reducible refine (HR.out _ BS2.out.below).mono ?_)
    rintro e w3 ⟨⟨D2, l2, y2, E2, m2, k2, rfl, a2, b2, hl, hm, hc, hd⟩, hb⟩
    have BQ3 := Lib.hid (BS2.out.on hb)
    have BS3 := Lib.hid (BQ3.out.alloc TF #[.slice D2 l2 y2, .slice E2 m2 k2])
    have X2 := Lib.hid (hc.alloc (.cells #[.slice D2 l2 y2, .slice E2 m2 k2] TF))
    have Y2 := Lib.hid (hd.alloc (.cells #[.slice D2 l2 y2, .slice E2 m2 k2] TF))
    replace X1 := Lib.hid ((X1.out.below hb).alloc (.cells #[.slice D2 l2 y2, .slice E2 m2 k2] TF))
    replace Y1 := Lib.hid ((Y1.out.below hb).alloc (.cells #[.slice D2 l2 y2, .slice E2 m2 k2] TF))
    have L2 := Lib.hid hl
    have M2 := Lib.hid hm
    clear hb hl hm hc hd BS2 qf0 qf1 lf
    obtain ⟨_, ta, ka⟩ := BQ3.out.get (.head _)
    have q0 : w3.cell? ⟨w2.heap.size, 0, none⟩ = some (.slice D1 l1 y1) := ka.cell 0
    have q1 : w3.cell? ⟨w2.heap.size, 1, none⟩ = some (.slice E1 m1 k1) := ka.cell 1
    clear ka BQ3
    go_wp2_with fail
    refine (same_eq a1 b1 a2 b2 L1.out M1.out L2.out M2.out X1.out Y1.out X2.out Y2.out).mono ?_
    rintro e w6 ⟨rfl, hb⟩
    have BS6 := Lib.hid (BS3.out.on hb)
    clear hb q0 q1 ta BS3
    go_wp2_with fail
    refine (AW.out _).mono ?_
    rintro e w7 ⟨rfl, hb⟩
    have HB7 := Lib.hid (BS6.out.on hb).below
    clear hb
    go_wp2
    go_ret
    exact ⟨rfl, HB7.out⟩
  all_goals
    go_enter Try.func6, Try.ntmps6
    go_wp2_with fail
    refine (AW.out _).mono ?_
    rintro e w7 ⟨rfl, hb⟩
    have HB7 := Lib.hid (BS0.out.on hb).below
    clear hb
    go_wp2
    go_ret
    exact ⟨rfl, HB7.out⟩
end Fa
theorem fairnessTails_walk (W : World) (n : Int) (wn : (Lit.int .i64 n).wf = true) (k : Int) (wk : (Lit.int .i64 k).wf = true) {D : Option Addr} {n0 c0 : Nat} {f : Nat → Nat} {E : Option Addr} {n1 c1 : Nat} {g : Nat → Nat} (A : FrArg W D n0 c0 f E n1 c1 g) :
    Calls Try.prog 6 #[.int .i64 n, .int .i64 k, Fr.fv D n0 c0 E n1 c1] W fun e w' => e = .returned (.bool true) ∧ Below W.heap.size W w' := Fa.tails_law A n k
end Go.Proofs.Ytiflmnmkmpjecaa
