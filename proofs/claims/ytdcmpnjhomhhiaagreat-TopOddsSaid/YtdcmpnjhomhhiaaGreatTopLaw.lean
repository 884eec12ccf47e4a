/- The walk of TopOdds. -/
import Derived.Test.YtdcmpnjhomhhiaaGreatTopFin
import Derived.Test.YtdcmpnjhomhhiaaGreatG10
import Derived.Deep.RegionHeld3
import Derived.Deep.CutRange
import Derived.Deep.CutBlock
set_option linter.unusedVariables false
namespace Go.Proofs.YtdcmpnjhomhhiaaGreat
open Go.RowKit Fr Fa
namespace Tp
theorem mcount_gs (w : World) {m n b c x : Nat} {D : Option Addr} {T k : Nat} {P Q : Nat → Nat} (h : Gs m n b c x T k P Q) (hD : Cells w D (T * 6) (Six P Q)) : Calls Tryz.prog 5 #[.agg (tg m n b c x D T k)] w fun e w' => e = .returned (.tuple #[.int .i64 ((NL n m c b : Nat) : Int), .int .i64 0]) ∧ Below w.heap.size w w' := mcount_tg w h.hm0 h.hm h.hmx h.hn h.hx h.hb hD h.hT h.hT2 h.hk h.hP h.hd
theorem munrank_gs (w : World) {m n b c x : Nat} {D : Option Addr} {T k : Nat} {P Q : Nat → Nat} (h : Gs m n b c x T k P Q) (hD : Cells w D (T * 6) (Six P Q)) {q : Nat} (hq : q < NL n m c b) : Calls Tryz.prog 7 #[.agg (tg m n b c x D T k), .int .i64 (q : Int)] w fun e w' => (∃ (E F : Option Addr) (u v : Nat), e = .returned (.tuple #[.agg #[.slice E m u, .slice F b v], .int .i64 0]) ∧ Cells w' E m (Dg (fm n m c b q)) ∧ Cells w' F b (Dg (gm c b q)) ∧ Fresh w.heap.size E ∧ Fresh w.heap.size F ∧ m ≤ u ∧ b ≤ v) ∧ Below w.heap.size w w' := munrank_tg w h.hm0 h.hm h.hmx h.hn h.hx h.hb hD h.hT h.hT2 h.hk h.hP h.hd hq
set_option maxHeartbeats 2000000 in
theorem has_any (w : World) {A : Option Addr} {n c : Nat} {f : Nat → Nat} {v : Nat} (hn : n ≤ 1000) (hA : Cells w A n (Dg f)) :
    Calls Tryz.prog 8 #[.slice A n c, .int .i64 (v : Int)] w fun e w' => e = .returned (.bool (hs f v n)) ∧ w' = w := by
  have HR0 : Hid (hs f v 0 = false) := Lib.hid rfl
  go_enter Tryz.func8, Tryz.ntmps8
  go_wp2
  go_loopw [9] (fun i wr => ∃ k : Nat, k ≤ n ∧ i = .int .i64 (k : Int) ∧ Hid (hs f v k = false) ∧ Hid (wr = w)) (fun i _ => n - (intOf i).toNat)
  case atStart => exact ⟨0, Nat.zero_le _, rfl, HR0, Lib.hid rfl⟩
  case round =>
    obtain ⟨k, hk, rfl, HR, HW⟩ := hrel
    by_cases hkn : k < n
    · obtain ⟨b1, o1, rfl, hlt1, hc1⟩ := hA.dg hkn
      rw [← HW.out] at hlt1 hc1
      by_cases hv : f k = v
      · have HY := Lib.hid (hs_at hv hkn)
        have e1 : ((f k : Int) == (v : Int)) = true := by rw [hv]; simp
        have e2 : (f k == v) = true := by rw [hv]; simp
        clear hv
        go_wp2
        go_ret
        exact ⟨by rw [HY.out]; rfl, HW.out⟩
      · have HY := Lib.hid (hs_no HR.out hv)
        have e1 : ((f k : Int) == (v : Int)) = false := by simp; omega
        have e2 : (f k == v) = false := by simp; omega
        clear hv
        go_wp2
        go_roundw
        case rel => exact ⟨k + 1, by omega, by first | rfl | simp, HY, HW⟩
        case measure => simp [intOf]; omega
    · obtain rfl : k = n := by omega
      go_wp2
      go_ret
      exact ⟨by rw [HR.out]; rfl, HW.out⟩
theorem bx_alloc {w0 w : World} (h : Below w0.heap.size w0 w) (o : Obj) : Below w0.heap.size w0 (w.alloc o) := h.alloc h.size o
theorem bnew2 {w w' : World} {a b : Value} {t : TypeId} (h : Below (w.alloc (.cells #[a, b] t)).drew.heap.size (w.alloc (.cells #[a, b] t)).drew w') : Blk w' w.heap.size t #[a, b] :=
  (show Blk (w.alloc (.cells #[a, b] t)).drew w.heap.size t #[a, b] from Blk.new w t _).keep h
theorem bnew1 {w w' : World} {a : Value} {t : TypeId} (h : Below (w.alloc (.cells #[a] t)).drew.heap.size (w.alloc (.cells #[a] t)).drew w') : Blk w' w.heap.size t #[a] :=
  (show Blk (w.alloc (.cells #[a] t)).drew w.heap.size t #[a] from Blk.new w t _).keep h
theorem bnew1' {w w' : World} {a : Value} {t : TypeId} (h : Below (w.alloc (.cells #[a] t)).heap.size (w.alloc (.cells #[a] t)) w') : Blk w' w.heap.size t #[a] := (Blk.new w t _).keep h
theorem yieldsIf_load_row {P : Program} {ops : Array Oper} {S : World → Prop} {op : Oper} {a : Act} (hw : Region.wanted op (yielded ops a.tmps) = true) (ty : TypeId) (x : Operand) (ho : op.op = .load ty x)
    (g : Nat) (hx : a.eval x = .pointer (some ⟨g, 0, none⟩)) (t : TypeId) (cs : Array Value) (d : TypeDesc) (hS : ∀ w, S w → w.heap[g]? = some (.cells cs t (0, 0)))
    (hu : P.underlying ty = some d) (hd : (match d with | .struct _ | .array _ _ => true | _ => false) = true) (hi : (P.info? ty).map (·.size) = some cs.size) : YieldsIf P ops S op (.agg cs) a :=
  .inl ⟨hw, fun w hw' => by
    unfold execOp
    simp only [ho, hx, Instr.loadAt, Instr.sureAddr, Sem.run_bind, Sem.run_pure, Result.andThen_ok, run_loadVar_row w g t ty cs (0, 0) d (hS w hw') hu hd hi]⟩
theorem row_snoc (l : Nat) (h : Nat → Nat) (q : Nat) : row ((l + 1) * 1) (Dg fun j => if j = l then q else h j) = row (l * 1) (Dg h) ++ [.int .i64 (q : Int)] := by
  rw [Nat.mul_one, Nat.mul_one, row_one]
  congr 1
  · exact row_congr fun j hj => by show Value.int .i64 (((if j = l then q else h j) : Nat) : Int) = .int .i64 ((h j : Nat) : Int); rw [if_neg (by omega)]
  · unfold Dg; simp
theorem cnts_none {n m c b d t i : Nat} (h : tr n m c b i d = none) : cnts n m c b d t (i + 1) = cnts n m c b d t i := by
  rw [cnts, h]; simp
theorem cnts_some {n m c b d t i j : Nat} (h : tr n m c b i d = some j) : cnts n m c b d t (i + 1) = if t = j then cnts n m c b d j i + 1 else cnts n m c b d t i := by
  rw [cnts, h]
  by_cases e : t = j
  · subst e; simp
  · rw [if_neg e, if_neg (fun h2 => e (by injection h2 with h2; exact h2.symm))]; rfl
/-- A box of a new number. -/
def Bx (wa wx : World) (v : Value) (N : Nat) : Prop := ∃ (bb : Nat) (P : Option Addr) (lp cp : Nat), v = .pointer (some ⟨bb, 0, none⟩) ∧ wx.cell? ⟨bb, 0, none⟩ = some (.slice P lp cp) ∧ bb < wx.heap.size ∧ lp = L32 N ∧ Cells wx P lp (Lm (d32 N)) ∧ Below wa.heap.size wa wx
theorem Bx.last {wa w6 : World} {P : Option Addr} {lp cp N : Nat} (t6 : Below wa.heap.size wa w6) (hl : lp = L32 N) (hc : Cells w6 P lp (Lm (d32 N))) : Bx wa (w6.alloc (.cells #[.slice P lp cp] TN)) (.pointer (some ⟨w6.heap.size, 0, none⟩)) N :=
  ⟨_, P, lp, cp, rfl, (Blk.new w6 TN #[.slice P lp cp]).cell 0, (Blk.new w6 TN #[.slice P lp cp]).lt, hl, hc.alloc _, bx_alloc t6 _⟩
theorem Bx.mid {wa w6 : World} {P : Option Addr} {lp cp N bb B : Nat} {v0 : Value} (t6 : Below wa.heap.size wa w6) (hk : Blk w6 bb TN #[v0]) (hge : wa.heap.size ≤ bb) (hf : Fresh B P) (hB : bb < B) (hl : lp = L32 N) (hc : Cells w6 P lp (Lm (d32 N))) : Bx wa (w6.setCell ⟨bb, 0, none⟩ (.slice P lp cp)) (.pointer (some ⟨bb, 0, none⟩)) N :=
  ⟨_, P, lp, cp, rfl, (hk.set_ 0 _).cell 0, (hk.set_ 0 (.slice P lp cp)).lt, hl, hc.set_ hf hB 0 _, t6.setCell (p := ⟨bb, 0, none⟩) hge _⟩
theorem of_gs (w' wa : World) {L : Nat} (hL : L < 18446744073709551616) (hw : Below wa.heap.size wa w') : Calls Tryz.prog 12 #[.int .u64 (L : Int)] w' fun e w'' => ∃ (D : Option Addr) (l c : Nat), e = .returned (.agg #[.slice D l c]) ∧ Hid (l = L32 L) ∧ Hid (Cells w'' D l (Lm (d32 L))) ∧ Below w'.heap.size w' w'' ∧ Below wa.heap.size wa w'' := by
  refine (of_new L hL w').mono ?_
  rintro e w'' ⟨D, c, rfl, _, h1, _, h2⟩
  exact ⟨D, _, c, rfl, Lib.hid rfl, Lib.hid h1, h2, Below.on hw h2⟩
theorem mul_gs (w' wa : World) {W L : Nat} {D1 D : Option Addr} {l1 c1 l c : Nat} (hW : W < 18446744073709551616) (hL : L < 18446744073709551616) (hWL : W * L < 18446744073709551616) (hl1 : l1 = L32 W) (hc1 : Cells wa D1 l1 (Lm (d32 W))) (hl : Hid (l = L32 L)) (hc : Hid (Cells w' D l (Lm (d32 L)))) (hw : Below wa.heap.size wa w') : Calls Tryz.prog 11 #[.agg #[.slice D1 l1 c1], .agg #[.slice D l c]] w' fun e w'' => ∃ (P : Option Addr) (lp cp : Nat), e = .returned (.tuple #[.agg #[.slice P lp cp], .int .i64 0]) ∧ Hid (lp = L32 (W * L)) ∧ Hid (Cells w'' P lp (Lm (d32 (W * L)))) ∧ Hid (Fresh w'.heap.size P) ∧ Below w'.heap.size w' w'' ∧ Below wa.heap.size wa w'' := by
  refine (mul_any (x := W) (y := L) (by rw [hl1]; exact len2 hW) (by rw [hl.out]; exact len2 hL) hl1 hl.out (hc1.below hw) hc.out).mono ?_
  rintro e w'' ⟨hr, hb⟩
  rcases hr with ⟨_, P, cp, rfl, _, h1, h2⟩ | ⟨h9, _⟩
  · exact ⟨P, _, cp, rfl, Lib.hid rfl, Lib.hid h1, Lib.hid h2, hb, Below.on hw hb⟩
  · exact absurd h9 (by have := len2 hWL; omega)
theorem Oc_le {n m x c b : Nat} (hn : n ≤ 7) (hm : m ≤ 3) (hx : x ≤ 1) (hc : c ≤ 3) (hb : b ≤ 1) : Oc n m x c b ≤ 1000000 := by
  unfold Oc
  have h1 : czi (n : Int) (m : Int) ≤ 100 := czi_le (by omega) (by omega)
  have h2 : czi ((n : Int) - m) (x : Int) ≤ 100 := czi_le (by omega) (by omega)
  have h3 : czi (c : Int) (b : Int) ≤ 100 := czi_le (by omega) (by omega)
  rw [Nat.one_mul]
  exact Nat.le_trans (Nat.mul_le_mul (Nat.mul_le_mul h1 h2) h3) (by decide)
theorem cell_on {w w' : World} {g i : Nat} {v : Value} (h : w.cell? ⟨g, i, none⟩ = some v) (hlt : g < w.heap.size) (hb : Below w.heap.size w w') : w'.cell? ⟨g, i, none⟩ = some v :=
  (World.cell?_of_block (a := ⟨g, i, none⟩) (hb.block g hlt)).trans h
theorem cmp_eq {x y : Nat} (h : x = y) : cmpI x y = 0 := by subst h; unfold cmpI; simp
set_option maxHeartbeats 8000000 in
set_option maxRecDepth 100000 in
theorem topOdds_nat (w : World) {s0 s1 s2 s3 s4 dr m n b c x L : Nat} (hm : m = s0 % 3 + 1) (hn : n = m + s1 % 4 + 1) (hx : x = s2 % 2) (hb : b = s3 % 2) (hc : c = b * (s4 % 3 + 1)) (hL : L = NL n m c b) (hdr : dr ≤ 65535) : Calls Tryz.prog 3 #[.agg #[.int .u8 (s0 : Int), .int .u8 (s1 : Int), .int .u8 (s2 : Int), .int .u8 (s3 : Int), .int .u8 (s4 : Int)], .int .u16 (dr : Int)] w fun e w' => e = .returned (.bool true) ∧ Below w.heap.size w w' := by
  obtain ⟨i0, hi, hz0, hz1, hz2⟩ := info_parts Tryz.infoI
  have hb1 : b ≤ 1 := by omega
  have lx : x ≤ 1 := by omega
  have hm0 : 1 ≤ m := by omega
  have hm3 : m ≤ 3 := by omega
  have hmn : m + 1 ≤ n := by omega
  have hn4 : n ≤ m + 4 := by omega
  have hbc : b = 0 ∧ c = 0 ∨ b = 1 ∧ 1 ≤ c ∧ c ≤ 3 := by
    have h : b = 0 ∨ b = 1 := by omega
    rcases h with h | h
    · exact .inl ⟨h, by rw [hc, h, Nat.zero_mul]⟩
    · refine .inr ⟨h, ?_⟩
      rw [hc, h, Nat.one_mul]
      omega
  have HTI := Lib.hid (fun w => tiny_any w hm hn hx hb hc)
  have HGS := Lib.hid (fun k (hk : nT m b ≤ k) => gs_tiny (x := x) (k := k) hm0 hm3 (show m + x ≤ n by omega) (by omega) lx hbc hk)

  have HLI := Lib.hid (fun i (hi : i < L) => line_of (n := n) hm3 hmn (by omega) hbc (by rw [← hL]; exact hi))
  have HGD := Lib.hid (fun t d (ht : t < nT m b) (hd : d < L) => good_all (x := x) hm0 hm3 hmn hn4 lx hbc ht (by rw [← hL]; exact hd))
  have HOL := Lib.hid (Oc_le (n := n) (m := m) (x := x) (c := c) (b := b) (by omega) hm3 lx (by omega) hb1)
  have hL1 : 1 ≤ L := by rw [hL]; exact NL_pos hm3 (by omega) (by omega) hbc
  have hL4 : L ≤ 10000 := by rw [hL]; exact NL_le hm3 (by omega) hb1 (by omega)
  have HL := Lib.hid hL
  have hn7 : n ≤ 7 := by omega
  clear hm hn hx hb hc hL hbc hn4
  have BS0 := Lib.hid ((Fr.Bs.nil w).alloc TA5 #[.int .u8 (s0 : Int), .int .u8 (s1 : Int), .int .u8 (s2 : Int), .int .u8 (s3 : Int), .int .u8 (s4 : Int)])
  go_enter Tryz.func3, Tryz.ntmps3
  go_upto_region 1 with (fail)
  obtain ⟨wa, hwa⟩ : ∃ wa, wa = (w.alloc (.cells #[.int .u8 (s0 : Int), .int .u8 (s1 : Int), .int .u8 (s2 : Int), .int .u8 (s3 : Int), .int .u8 (s4 : Int)] TA5)) := ⟨_, rfl⟩
  change Code.wp _ _ _ _ (w.alloc (.cells #[.int .u8 (s0 : Int), .int .u8 (s1 : Int), .int .u8 (s2 : Int), .int .u8 (s3 : Int), .int .u8 (s4 : Int)] TA5))
  rw [← hwa] at BS0 ⊢
  have HB := Lib.hid BS0.out.below
  obtain ⟨_, la, ka⟩ := BS0.out.get (.head _)
  obtain ⟨ab, hab⟩ : ∃ g, g = w.heap.size := ⟨_, rfl⟩
  rw [← hab] at ka la
  rw [show (Value.pointer (some ⟨w.heap.size, 0, none⟩)) = .pointer (some ⟨ab, 0, none⟩) by rw [hab]]
  have Sa := Lib.hid (show w.heap.size ≤ ab by omega)
  have Ka := Lib.hid ka
  clear ka la
  clear hwa BS0 hab
  have HTI2 := Lib.hid (HTI.out wa)
  go_wp2_with (refine wpList_load_row rfl TA5 _ rfl ab rfl TA5 _ (0, 0) _ Ka.out Tryz.underlying22 rfl (by kernel_rfl) ?_)
  go_wp2_with fail
  with_reducible refine HTI2.out.mono ?_
  rintro e w1 ⟨⟨D, k, rfl, hD, hk⟩, hb1⟩
  replace HB := Lib.hid (Below.on HB.out hb1)
  have HG := Lib.hid (HGS.out k hk)
  clear Ka Sa HTI HTI2 hb1 HGS
  go_upto_region 2 with (refine wpList_store_row rfl TG _ _ rfl w1.heap.size (tg m n b c x D (nT m b) k) rfl rfl TG #[.string ⟨#[]⟩, .int .i64 0, .int .i64 0, .int .i64 0, .int .i64 0, .int .i64 0, .int .i64 0, .int .i64 0, .int .i64 0, .int .i64 0, .int .i64 0, .int .i64 0, .int .i64 0, .int .i64 0, .int .i64 0, .int .i64 0, .int .i64 0, .int .i64 0, .int .i64 0, .int .i64 0, .slice none 0 0, .slice none 0 0] (heap_alloc_last w1 _) (by kernel_rfl) rfl (by kernel_rfl) ?_; rw [World.setRow_alloc_new])
  obtain ⟨wt, hwt⟩ : ∃ wt, wt = w1.alloc (.cells (tg m n b c x D (nT m b) k) TG) := ⟨_, rfl⟩
  change Code.wp _ _ _ _ (w1.alloc (.cells (tg m n b c x D (nT m b) k) TG))
  obtain ⟨gb, hgb⟩ : ∃ g, g = w1.heap.size := ⟨_, rfl⟩
  have hbt : Below w1.heap.size w1 wt := by rw [hwt]; exact (Below.refl _ _).alloc (Nat.le_refl _) _
  have Kg : Hid (Blk wt gb TG (tg m n b c x D (nT m b) k)) := by rw [hwt, hgb]; exact Lib.hid (Blk.new w1 TG _)
  rw [← hwt, show (Value.pointer (some ⟨w1.heap.size, 0, none⟩)) = .pointer (some ⟨gb, 0, none⟩) by rw [hgb]]
  have HD := Lib.hid (hD.below hbt)
  replace HB := Lib.hid (Below.on HB.out hbt)
  clear hwt hgb hbt hD hk
  have HMC := Lib.hid (fun (w : World) (hD : Cells w D (nT m b * 6) (Six (tP m b) (tQ b))) => mcount_gs w HG.out hD)
  rw [← HL.out] at HMC
  have HOU := Lib.hid (fun (w : World) (hD : Cells w D (nT m b * 6) (Six (tP m b) (tQ b))) => outcomes_tg w HG.out hD)
  obtain ⟨N, hN⟩ : ∃ N, N = Oc n m x c b := ⟨_, rfl⟩
  rw [← hN] at HOU
  have HN := Lib.hid hN
  have HUN := Lib.hid (fun (w : World) (hD : Cells w D (nT m b * 6) (Six (tP m b) (tQ b))) (q : Nat) (hq : q < L) => munrank_gs w HG.out hD (q := q) (by rw [← HL.out]; exact hq))
  clear hN
  go_wp2_with (refine wpList_load_row rfl TG _ rfl gb rfl TG _ (0, 0) _ Kg.out Tryz.underlying27 rfl (by kernel_rfl) ?_)
  go_wp2_with fail
  with_reducible refine (HMC.out _ HD.out).mono ?_
  rintro e w2 ⟨rfl, hb1⟩
  replace HB := Lib.hid (Below.on HB.out hb1)
  replace Kg := Lib.hid (Kg.out.keep hb1)
  replace HD := Lib.hid (HD.out.below hb1)
  clear hb1 HMC
  go_wp2_with (refine wpList_load_row rfl TG _ rfl gb rfl TG _ (0, 0) _ Kg.out Tryz.underlying27 rfl (by kernel_rfl) ?_)
  go_wp2_with fail
  with_reducible refine (HOU.out _ HD.out).mono ?_
  rintro e w3 ⟨⟨Do, lo, co, rfl, hlo, hco, hfo⟩, hb1⟩
  replace HB := Lib.hid (Below.on HB.out hb1)
  replace Kg := Lib.hid (Kg.out.keep hb1)
  replace HD := Lib.hid (HD.out.below hb1)
  have HLO := Lib.hid hlo
  have HCO := Lib.hid hco
  clear hb1 HOU hlo hco hfo
  go_upto_region 4 with (fail)
  obtain ⟨wo, hwo⟩ : ∃ wo, wo = w3.alloc (.cells #[.slice Do lo co] TN) := ⟨_, rfl⟩
  change Code.wp _ _ _ _ (w3.alloc (.cells #[.slice Do lo co] TN))
  obtain ⟨ob, hob⟩ : ∃ g, g = w3.heap.size := ⟨_, rfl⟩
  have hbt : Below w3.heap.size w3 wo := by rw [hwo]; exact (Below.refl _ _).alloc (Nat.le_refl _) _
  have Ko : Hid (Blk wo ob TN #[.slice Do lo co]) := by rw [hwo, hob]; exact Lib.hid (Blk.new w3 TN _)
  rw [← hwo, show (Value.pointer (some ⟨w3.heap.size, 0, none⟩)) = .pointer (some ⟨ob, 0, none⟩) by rw [hob]]
  replace HB := Lib.hid (Below.on HB.out hbt)
  replace Kg := Lib.hid (Kg.out.keep hbt)
  replace HD := Lib.hid (HD.out.below hbt)
  replace HCO := Lib.hid (HCO.out.below hbt)
  clear hwo hob hbt
  have g1 : ((L : Int) < 1) = False := eq_false (by omega)
  go_upto_region 6 with (fail)
  have g2 : (L = 0) = False := eq_false (by omega)
  have g3 : ((L : Int) = 0) = False := eq_false (by omega)
  obtain ⟨dd, hdd⟩ : ∃ z, z = dr % L := ⟨_, rfl⟩
  have hdL : dd < L := by rw [hdd]; exact Nat.mod_lt _ hL1
  have v1 : IntKind.i64.wrap (dr : Int) = (dr : Int) := IntWalk.i64_in _ (by omega)
  have v2 : (dr : Int).tmod (L : Int) = (dd : Int) := by rw [hdd]; rfl
  have v3 : IntKind.i64.wrap (dd : Int) = (dd : Int) := IntWalk.i64_in _ (by omega)
  have HDL := Lib.hid hdL
  clear hdd
  have HALL : Hid (∀ wz, Below wo.heap.size wo wz → wz.heap[gb]? = some (.cells (tg m n b c x D (nT m b) k) TG (0, 0)) ∧ Below wo.heap.size wo wz) := Lib.hid fun wz hz => ⟨Kg.out.keep hz, hz⟩
  have HLA : ∀ w', w'.heap[gb]? = some (.cells (tg m n b c x D (nT m b) k) TG (0, 0)) → (Instr.loadAt TG (.pointer (some ⟨gb, 0, none⟩))).run Tryz.prog w' = .ok (.agg (tg m n b c x D (nT m b) k)) w' := fun w' h => by
    simp only [Instr.loadAt, Instr.sureAddr, Sem.run_bind, Sem.run_pure, Result.andThen_ok, run_loadVar_row w' gb TG TG (tg m n b c x D (nT m b) k) (0, 0) _ h Tryz.underlying27 rfl (by kernel_rfl)]
  have HOF : Hid (∀ wz, Below wo.heap.size wo wz → Calls Tryz.prog 7 #[.agg (tg m n b c x D (nT m b) k), .int .i64 (dd : Int)] wz fun e w' => (∃ (E F : Option Addr) (u v : Nat), e = .returned (.tuple #[.agg #[.slice E m u, .slice F b v], .int .i64 0]) ∧ Hid (Cells w' E m (Dg (fm n m c b dd))) ∧ Hid (Cells w' F b (Dg (gm c b dd))) ∧ Hid (Fresh wz.heap.size E ∧ Fresh wz.heap.size F) ∧ Hid (m ≤ u ∧ b ≤ v)) ∧ Below wz.heap.size wz w' ∧ Below wo.heap.size wo w') := Lib.hid fun wz hz => (HUN.out wz (HD.out.below hz) dd hdL).mono fun e w' h => by
    obtain ⟨⟨E, F, u, v, h1, h2, h3, h4, h5, h6⟩, h7⟩ := h
    exact ⟨⟨E, F, u, v, h1, Lib.hid h2, Lib.hid h3, Lib.hid ⟨h4, h5⟩, Lib.hid h6⟩, h7, Below.on hz h7⟩
  have A0 : Below wo.heap.size wo wo.drew := (Below.refl _ _).drew
  go_cut [10, 7] (fun s10 s7 wx => s7 = .int .i64 0 ∧ ∃ (lb : Nat) (E F : Option Addr) (u v : Nat), s10 = .pointer (some ⟨lb, 0, none⟩) ∧ Hid (Blk wx lb TL #[.slice E m u, .slice F b v]) ∧ Hid (Cells wx E m (Dg (fm n m c b dd))) ∧ Hid (Cells wx F b (Dg (gm c b dd))) ∧ Hid (m ≤ u ∧ b ≤ v) ∧ Hid (Below wo.heap.size wo wx))
  case first =>
    refine wp_region_held_drew (S := fun w' => w'.heap[gb]? = some (.cells (tg m n b c x D (nT m b) k) TG (0, 0)) ∧ Below wo.heap.size wo w') (by kernel_rfl) (HALL.out _ A0) (fun hHeld => ?_)
    change wpAnyH _ _ _ _ _ 12 (Array.replicate 12 false) _ _
    refine wpAnyH_take (i := 0) (oi := ?o1) (v := .agg (tg m n b c x D (nT m b) k)) ?hi1 (by kernel_rfl) (by kernel_rfl) (by kernel_rfl) ?hQ1 ?hy1 (by assumption) ?hr1
    case hi1 => (simp only [List.getElem?_toArray, List.getElem?_cons_zero]; exact rfl)
    case hQ1 => exact fun _ _ _ h => h
    case hy1 => exact yieldsIf_load_row (by rfl) _ _ rfl gb rfl TG (tg m n b c x D (nT m b) k) _ (fun _ h => h.1) Tryz.underlying27 rfl (by kernel_rfl)
    try simp only [Act.put, List.setIfInBounds_toArray, List.set_cons_zero, List.set_cons_succ]
    refine wpAnyH_take (i := 1) (oi := ?o2) (v := ?v2) ?hi2 (by kernel_rfl) (by kernel_rfl) (by kernel_rfl) ?hQ2 ?hy2 (by assumption) ?hr2
    case hi2 => (simp only [List.getElem?_toArray, List.getElem?_cons_succ, List.getElem?_cons_zero]; exact rfl)
    case hQ2 => exact fun _ _ _ h => h
    case hy2 =>
      refine Or.inl ⟨by rfl, ?_⟩
      intro w' hSw
      (try dsimp only at hSw)
      go_simp
      all_goals with_reducible rfl
    try simp only [Act.put, List.setIfInBounds_toArray, List.set_cons_zero, List.set_cons_succ]
    refine wpAnyH_take (i := 2) (oi := ?o3) (v := ?v3) ?hi3 (by kernel_rfl) (by kernel_rfl) (by kernel_rfl) ?hQ3 ?hy3 (by assumption) ?hr3
    case hi3 => (simp only [List.getElem?_toArray, List.getElem?_cons_succ, List.getElem?_cons_zero]; exact rfl)
    case hQ3 => exact fun _ _ _ h => h
    case hy3 =>
      refine Or.inl ⟨by rfl, ?_⟩
      intro w' hSw
      (try dsimp only at hSw)
      go_simp
      all_goals with_reducible rfl
    try simp only [Act.put, List.setIfInBounds_toArray, List.set_cons_zero, List.set_cons_succ]
    refine wpAnyH_take (i := 3) (oi := ?o4) (v := ?v4) ?hi4 (by kernel_rfl) (by kernel_rfl) (by kernel_rfl) ?hQ4 ?hy4 (by assumption) ?hr4
    case hi4 => (simp only [List.getElem?_toArray, List.getElem?_cons_succ, List.getElem?_cons_zero]; exact rfl)
    case hQ4 => exact fun _ _ _ h => h
    case hy4 =>
      refine Or.inl ⟨by rfl, ?_⟩
      intro w' hSw
      (try dsimp only at hSw)
      go_simp
      all_goals with_reducible rfl
    try simp only [Act.put, List.setIfInBounds_toArray, List.set_cons_zero, List.set_cons_succ]
    refine wpAnyH_take (i := 4) (oi := ?o5) (v := ?v5) ?hi5 (by kernel_rfl) (by kernel_rfl) (by kernel_rfl) ?hQ5 ?hy5 (by assumption) ?hr5
    case hi5 => (simp only [List.getElem?_toArray, List.getElem?_cons_succ, List.getElem?_cons_zero]; exact rfl)
    case hQ5 => exact fun _ _ _ h => h
    case hy5 =>
      refine Or.inl ⟨by rfl, ?_⟩
      intro w' hSw
      (try dsimp only at hSw)
      go_simp
      all_goals with_reducible rfl
    try simp only [Act.put, List.setIfInBounds_toArray, List.set_cons_zero, List.set_cons_succ]
    refine wpAnyH_ready (rs := [5, 9]) (by kernel_rfl) (by simp) ?_
    refine AllReadyH.cons (o := ?o6) ?hi6 ?hs6 (AllReadyH.cons (o := ?o7) ?hi7 ?hs7 AllReadyH.nil)
    case hi6 => (simp only [List.getElem?_toArray, List.getElem?_cons_succ, List.getElem?_cons_zero]; exact rfl)
    case hi7 => (simp only [List.getElem?_toArray, List.getElem?_cons_succ, List.getElem?_cons_zero]; exact rfl)
    case hs6 =>
      intro K hK
      go_simp
      (go_at_call 7; (with_reducible refine (HOF.out _ ?_).mono ?_); (first | assumption | exact Below.drew (bx_alloc (Below.refl _ _) _)); rintro e5 w5 ⟨⟨E5, F5, u5, v5, rfl, hE5, hF5, fE5, gE5⟩, b5, t5⟩)
      refine hK.out _ _ (HALL.out _ t5) (fun hHeld => ?_)
      clear hK K
      try simp only [Act.put, List.setIfInBounds_toArray, List.set_cons_zero, List.set_cons_succ]
      refine wpAnyH_take (i := 6) (oi := ?o8) (v := ?v8) ?hi8 (by kernel_rfl) (by kernel_rfl) (by kernel_rfl) ?hQ8 ?hy8 (by assumption) ?hr8
      case hi8 => (simp only [List.getElem?_toArray, List.getElem?_cons_succ, List.getElem?_cons_zero]; exact rfl)
      case hQ8 => exact fun _ _ _ h => h
      case hy8 =>
        refine Or.inl ⟨by rfl, ?_⟩
        intro w' hSw
        (try dsimp only at hSw)
        go_simp
        all_goals with_reducible rfl
      try simp only [Act.put, List.setIfInBounds_toArray, List.set_cons_zero, List.set_cons_succ]
      refine wpAnyH_take (i := 7) (oi := ?o9) (v := ?v9) ?hi9 (by kernel_rfl) (by kernel_rfl) (by kernel_rfl) ?hQ9 ?hy9 (by assumption) ?hr9
      case hi9 => (simp only [List.getElem?_toArray, List.getElem?_cons_succ, List.getElem?_cons_zero]; exact rfl)
      case hQ9 => exact fun _ _ _ h => h
      case hy9 =>
        refine Or.inl ⟨by rfl, ?_⟩
        intro w' hSw
        (try dsimp only at hSw)
        go_simp
        all_goals with_reducible rfl
      try simp only [Act.put, List.setIfInBounds_toArray, List.set_cons_zero, List.set_cons_succ]
      refine wpAnyH_take (i := 8) (oi := ?o10) (v := ?v10) ?hi10 (by kernel_rfl) (by kernel_rfl) (by kernel_rfl) ?hQ10 ?hy10 (by assumption) ?hr10
      case hi10 => (simp only [List.getElem?_toArray, List.getElem?_cons_succ, List.getElem?_cons_zero]; exact rfl)
      case hQ10 => exact fun _ _ _ h => h
      case hy10 =>
        refine Or.inl ⟨by rfl, ?_⟩
        intro w' hSw
        (try dsimp only at hSw)
        go_simp
        all_goals with_reducible rfl
      try simp only [Act.put, List.setIfInBounds_toArray, List.set_cons_zero, List.set_cons_succ]
      refine wpAnyH_ready (rs := [9]) (by kernel_rfl) (by simp) ?_
      refine AllReadyH.cons (o := ?o11) ?hi11 ?hs11 AllReadyH.nil
      case hi11 => (simp only [List.getElem?_toArray, List.getElem?_cons_succ, List.getElem?_cons_zero]; exact rfl)
      case hs11 =>
        intro K hK
        go_simp
        refine hK.out _ _ (HALL.out _ (bx_alloc t5 _)) (fun hHeld => ?_)
        clear hK K
        try simp only [Act.put, List.setIfInBounds_toArray, List.set_cons_zero, List.set_cons_succ]
        refine wpAnyH_ready (rs := [10]) (by kernel_rfl) (by simp) ?_
        refine AllReadyH.cons (o := ?o12) ?hi12 ?hs12 AllReadyH.nil
        case hi12 => (simp only [List.getElem?_toArray, List.getElem?_cons_succ, List.getElem?_cons_zero]; exact rfl)
        case hs12 =>
          intro K hK
          go_simp
          refine hK.out _ _ (HALL.out _ (bx_alloc t5 _)) (fun hHeld => ?_)
          clear hK K
          try simp only [Act.put, List.setIfInBounds_toArray, List.set_cons_zero, List.set_cons_succ]
          refine wpAnyH_take (i := 11) (oi := ?o13) (v := ?v13) ?hi13 (by kernel_rfl) (by kernel_rfl) (by kernel_rfl) ?hQ13 ?hy13 (by assumption) ?hr13
          case hi13 => (simp only [List.getElem?_toArray, List.getElem?_cons_succ, List.getElem?_cons_zero]; exact rfl)
          case hQ13 => exact fun _ _ _ h => h
          case hy13 =>
            refine Or.inl ⟨by rfl, ?_⟩
            intro w' hSw
            (try dsimp only at hSw)
            go_simp
            all_goals with_reducible rfl
          try simp only [Act.put, List.setIfInBounds_toArray, List.set_cons_zero, List.set_cons_succ]
          refine wpAnyH_done (by kernel_rfl) ?_ _
          go_wp2_with fail
          go_meet
          case rel =>
            refine ⟨rfl, ?_⟩
            exact ⟨_, E5, F5, u5, v5, rfl, Lib.hid (Blk.new w5 TL _), Lib.hid (hE5.out.alloc _), Lib.hid (hF5.out.alloc _), gE5, Lib.hid (bx_alloc t5 _)⟩
    case hs7 =>
      intro K hK
      go_simp
      refine hK.out _ _ (HALL.out _ (Below.drew (bx_alloc (Below.refl _ _) _))) (fun hHeld => ?_)
      clear hK K
      try simp only [Act.put, List.setIfInBounds_toArray, List.set_cons_zero, List.set_cons_succ]
      refine wpAnyH_ready (rs := [5]) (by kernel_rfl) (by simp) ?_
      refine AllReadyH.cons (o := ?o14) ?hi14 ?hs14 AllReadyH.nil
      case hi14 => (simp only [List.getElem?_toArray, List.getElem?_cons_succ, List.getElem?_cons_zero]; exact rfl)
      case hs14 =>
        intro K hK
        go_simp
        (go_at_call 7; (with_reducible refine (HOF.out _ ?_).mono ?_); (first | assumption | exact Below.drew (bx_alloc (Below.refl _ _) _)); rintro e5 w5 ⟨⟨E5, F5, u5, v5, rfl, hE5, hF5, fE5, gE5⟩, b5, t5⟩)
        refine hK.out _ _ (HALL.out _ t5) (fun hHeld => ?_)
        clear hK K
        try simp only [Act.put, List.setIfInBounds_toArray, List.set_cons_zero, List.set_cons_succ]
        have kq := bnew2 b5
        have q0 : w5.cell? ⟨wo.heap.size, 0, none⟩ = some (.slice none 0 0) := kq.cell 0
        have q1 : w5.cell? ⟨wo.heap.size, 1, none⟩ = some (.slice none 0 0) := kq.cell 1
        have q2 := kq.frozen 0
        have q3 := kq.frozen 1
        refine wpAnyH_take (i := 6) (oi := ?o15) (v := ?v15) ?hi15 (by kernel_rfl) (by kernel_rfl) (by kernel_rfl) ?hQ15 ?hy15 (by assumption) ?hr15
        case hi15 => (simp only [List.getElem?_toArray, List.getElem?_cons_succ, List.getElem?_cons_zero]; exact rfl)
        case hQ15 => exact fun _ _ _ h => h
        case hy15 =>
          refine Or.inl ⟨by rfl, ?_⟩
          intro w' hSw
          (try dsimp only at hSw)
          go_simp
          all_goals with_reducible rfl
        try simp only [Act.put, List.setIfInBounds_toArray, List.set_cons_zero, List.set_cons_succ]
        refine wpAnyH_take (i := 7) (oi := ?o16) (v := ?v16) ?hi16 (by kernel_rfl) (by kernel_rfl) (by kernel_rfl) ?hQ16 ?hy16 (by assumption) ?hr16
        case hi16 => (simp only [List.getElem?_toArray, List.getElem?_cons_succ, List.getElem?_cons_zero]; exact rfl)
        case hQ16 => exact fun _ _ _ h => h
        case hy16 =>
          refine Or.inl ⟨by rfl, ?_⟩
          intro w' hSw
          (try dsimp only at hSw)
          go_simp
          all_goals with_reducible rfl
        try simp only [Act.put, List.setIfInBounds_toArray, List.set_cons_zero, List.set_cons_succ]
        refine wpAnyH_take (i := 8) (oi := ?o17) (v := ?v17) ?hi17 (by kernel_rfl) (by kernel_rfl) (by kernel_rfl) ?hQ17 ?hy17 (by assumption) ?hr17
        case hi17 => (simp only [List.getElem?_toArray, List.getElem?_cons_succ, List.getElem?_cons_zero]; exact rfl)
        case hQ17 => exact fun _ _ _ h => h
        case hy17 =>
          refine Or.inl ⟨by rfl, ?_⟩
          intro w' hSw
          (try dsimp only at hSw)
          go_simp
          all_goals with_reducible rfl
        try simp only [Act.put, List.setIfInBounds_toArray, List.set_cons_zero, List.set_cons_succ]
        refine wpAnyH_ready (rs := [10]) (by kernel_rfl) (by simp) ?_
        refine AllReadyH.cons (o := ?o18) ?hi18 ?hs18 AllReadyH.nil
        case hi18 => (simp only [List.getElem?_toArray, List.getElem?_cons_succ, List.getElem?_cons_zero]; exact rfl)
        case hs18 =>
          intro K hK
          go_simp
          refine hK.out _ _ (HALL.out _ (Below.setCell (p := ⟨wo.heap.size, 1, none⟩) (Below.setCell (p := ⟨wo.heap.size, 0, none⟩) t5 (Nat.le_refl _) _) (Nat.le_refl _) _)) (fun hHeld => ?_)
          clear hK K
          try simp only [Act.put, List.setIfInBounds_toArray, List.set_cons_zero, List.set_cons_succ]
          refine wpAnyH_take (i := 11) (oi := ?o19) (v := ?v19) ?hi19 (by kernel_rfl) (by kernel_rfl) (by kernel_rfl) ?hQ19 ?hy19 (by assumption) ?hr19
          case hi19 => (simp only [List.getElem?_toArray, List.getElem?_cons_succ, List.getElem?_cons_zero]; exact rfl)
          case hQ19 => exact fun _ _ _ h => h
          case hy19 =>
            refine Or.inl ⟨by rfl, ?_⟩
            intro w' hSw
            (try dsimp only at hSw)
            go_simp
            all_goals with_reducible rfl
          try simp only [Act.put, List.setIfInBounds_toArray, List.set_cons_zero, List.set_cons_succ]
          refine wpAnyH_done (by kernel_rfl) ?_ _
          go_wp2_with fail
          go_meet
          case rel =>
            refine ⟨rfl, ?_⟩
            exact ⟨_, E5, F5, u5, v5, rfl, Lib.hid ((kq.set_ 0 _).set_ 1 _), Lib.hid (((hE5.out.set_ fE5.out.1 (by simp) 0 _).set_ fE5.out.1 (by simp) 1 _)), Lib.hid (((hF5.out.set_ fE5.out.2 (by simp) 0 _).set_ fE5.out.2 (by simp) 1 _)), gE5, Lib.hid (Below.setCell (p := ⟨wo.heap.size, 1, none⟩) (Below.setCell (p := ⟨wo.heap.size, 0, none⟩) t5 (Nat.le_refl _) _) (Nat.le_refl _) _)⟩
  clear HALL HOF A0 HLA
  obtain ⟨rfl, lnb, E, F, u, v, rfl, Kl, HE, HF, HUV, HBX⟩ := hcut
  rename World => wl
  replace HB := Lib.hid (Below.on HB.out HBX.out)
  replace Kg := Lib.hid (Kg.out.keep HBX.out)
  replace Ko := Lib.hid (Ko.out.keep HBX.out)
  replace HD := Lib.hid (HD.out.below HBX.out)
  replace HCO := Lib.hid (HCO.out.below HBX.out)
  have l0 : wl.cell? ⟨lnb, 0, none⟩ = some (.slice E m u) := Kl.out.cell 0
  have l1 : wl.cell? ⟨lnb, 1, none⟩ = some (.slice F b v) := Kl.out.cell 1
  clear HBX
  go_upto_region 10 with (fail)
  obtain ⟨wr, hwr⟩ : ∃ wr, wr = wl.alloc (.cells #[.slice E m u, .slice F b v, .slice none 0 0, .int .i64 0, .string ⟨#[]⟩] TR) := ⟨_, rfl⟩
  change Code.wp _ _ _ _ (wl.alloc (.cells #[.slice E m u, .slice F b v, .slice none 0 0, .int .i64 0, .string ⟨#[]⟩] TR))
  obtain ⟨rb, hrb⟩ : ∃ g, g = wl.heap.size := ⟨_, rfl⟩
  have HBR : Hid (Below wl.heap.size wl wr) := by rw [hwr]; exact Lib.hid ((Below.refl _ _).alloc (Nat.le_refl _) _)
  have Kr : Hid (Blk wr rb TR #[.slice E m u, .slice F b v, .slice none 0 0, .int .i64 0, .string ⟨#[]⟩]) := by rw [hwr, hrb]; exact Lib.hid (Blk.new wl TR _)
  rw [← hwr, show (Value.pointer (some ⟨wl.heap.size, 0, none⟩)) = .pointer (some ⟨rb, 0, none⟩) by rw [hrb]]
  have HRB := Lib.hid (show wl.heap.size ≤ rb by omega)
  clear hwr hrb l0 l1
  go_upto_block 0 with fail
  obtain ⟨f, hf⟩ : ∃ f, f = fm n m c b dd := ⟨_, rfl⟩
  obtain ⟨g, hg⟩ : ∃ g, g = gm c b dd := ⟨_, rfl⟩
  rw [← hf] at HE
  rw [← hg] at HF
  have HLD := Lib.hid (HLI.out dd HDL.out)
  rw [← hf, ← hg] at HLD
  have HFG := Lib.hid (show f = fm n m c b dd ∧ g = gm c b dd from ⟨hf, hg⟩)
  clear hf hg
  go_cut [12] (fun s12 wx => ∃ (X : Option Addr) (y : Nat) (h : Nat → Nat), Hid (Blk wx rb TR #[.slice E m u, .slice F b v, .slice X x y, .int .i64 0, .string ⟨#[]⟩]) ∧ Hid (Cells wx X x (Dg h)) ∧ Hid (Asc h x n) ∧ Hid (∀ k, k < x → hs f (h k) m = false) ∧ Hid (Below wl.heap.size wl wx))
  case first =>
    go_wp2_with fail
    go_loopw [12] (fun s12 wr => ∃ (q l : Nat) (X : Option Addr) (y : Nat) (h : Nat → Nat), 1 ≤ q ∧ q ≤ n + 1 ∧ s12 = .int .i64 (q : Int) ∧ l ≤ x ∧ Hid (Blk wr rb TR #[.slice E m u, .slice F b v, .slice X l y, .int .i64 0, .string ⟨#[]⟩]) ∧ Hid (wr.ownsRow (rb + 1) 3 1 (.slice X l y) l (row (l * 1) (Dg h))) ∧ Hid (∀ k, k < l → 1 ≤ h k ∧ h k ≤ n ∧ hs f (h k) m = false) ∧ Hid (l < x → ∀ v, 1 ≤ v → v < q → hs f v m = true) ∧ Hid (Below wl.heap.size wl wr)) (fun i _ => n + 1 - (intOf i).toNat)
    case atStart => exact ⟨1, 0, none, 0, fun _ => 0, Nat.le_refl _, by omega, rfl, Nat.zero_le _, Kr, Lib.hid (World.ownsRow_nil _ _ _ _), Lib.hid (fun k hk => absurd hk (by omega)), Lib.hid (fun _ v h1 h2 => absurd h2 (by omega)), HBR⟩
    case round =>
      clear Kr HBR
      obtain ⟨q, l, X, y, h, hq1, hq2, rfl, hlx, Kr, HO, HH, HV, HBR⟩ := hrel
      rename World => wr
      have g4 : wr.cell? ⟨gb, 4, none⟩ = some (.int .i64 (n : Int)) := (Kg.out.keep HBR.out).cell 4
      have g7 : wr.cell? ⟨gb, 7, none⟩ = some (.int .i64 (x : Int)) := (Kg.out.keep HBR.out).cell 7
      have r2 : wr.cell? ⟨rb, 2, none⟩ = some (.slice X l y) := Kr.out.cell 2
      by_cases hgo : q ≤ n ∧ l < x
      · have k1 : (q : Int) ≤ (n : Int) := by omega
        have k2 : (l : Int) < (x : Int) := by omega
        have l0 : wr.cell? ⟨lnb, 0, none⟩ = some (.slice E m u) := (Kl.out.keep HBR.out).cell 0
        have HHA := Lib.hid (has_any (v := q) (c := u) wr (by omega) (HE.out.below HBR.out))
        have HQN := Lib.hid hgo
        have f2 := Kr.out.frozen 2
        obtain ⟨hh, hhh⟩ : ∃ z, z = hs f q m := ⟨_, rfl⟩
        rw [← hhh] at HHA
        have HHH := Lib.hid hhh
        have yq : IntKind.i64.wrap ((q : Int) + 1) = ((q + 1 : Nat) : Int) := by rw [IntWalk.i64_in _ (by omega)]; omega
        have l1 : l ≤ 1 := by omega
        clear hgo hhh
        cases hh
        · have HSZ := Lib.hid (show rb + 1 ≤ wr.heap.size from Kr.out.lt)
          have HROW := Lib.hid (row_snoc l h q)
          go_wp2_with fail
          with_reducible refine HHA.out.mono ?_
          rintro e w5 ⟨rfl, rfl⟩
          go_wp2_with (at_builtin; refine wpList_append_own _ rfl _ _ 37 rfl (rb + 1) 3 i0 (.int .i64 0) 1 8 Tryz.underlying37 hi hz0 hz1 hz2 rfl (by decide) _ _ _ rfl (HO.out.alloc _) ⟨w5.heap.size, 0, none⟩ 1 1 [.int .i64 (q : Int)] rfl rfl ?c1 ?c2 ?c3 ?c4 ?c5 ?_)
          case c1 => exact fun j u hu => new_cell rfl (by simpa using hu)
          case c2 => intro u hu; simp at hu; subst hu; rfl
          case c3 => unfold maxLen; omega
          case c4 => omega
          case c5 => have := HSZ.out; first | omega | (simp; omega)
          intro v' w3 hown' hgrow _
          obtain ⟨X', y', rfl, _⟩ := own_slice hown'
          have KR3 := Lib.hid ((Kr.out.alloc _).grown hgrow fun e => by have := (HO.out.lt rb e.symm).1; omega)
          have HB3 := Lib.hid ((HBR.out.alloc HBR.out.size _).grown hgrow (HBR.out.alloc HBR.out.size _).size fun k hk => by have := (HO.out.lt k hk).1; have := HRB.out; omega)
          have HO3 : Hid ((w3.setCell ⟨rb, 2, none⟩ (.slice X' (l + 1) y')).ownsRow (rb + 1) 3 1 (.slice X' (l + 1) y') (l + 1) (row ((l + 1) * 1) (Dg fun j => if j = l then q else h j))) := by
            rw [HROW.out, Nat.mul_one]
            exact Lib.hid (ownsRow_setCell_below hown' (a := ⟨rb, 2, none⟩) (Nat.lt_succ_self rb) _)
          have r2' : w3.cell? ⟨rb, 2, none⟩ = some (.slice X l y) := KR3.out.cell 2
          have f2' := KR3.out.frozen 2
          clear hown' hgrow r2 f2 g4 g7 l0 Kr HO
          go_wp2
          go_roundw
          case rel =>
            refine ⟨q + 1, l + 1, X', y', _, by omega, by have := HQN.out; omega, by first | rfl | simp, by have := HQN.out; omega, Lib.hid (KR3.out.set_ 2 (.slice X' (l + 1) y')), HO3, Lib.hid (fun k hk => ?_), Lib.hid (fun h => absurd h (by have := HQN.out; omega)), Lib.hid (HB3.out.setCell (p := ⟨rb, 2, none⟩) HRB.out _)⟩
            by_cases e : k = l
            · rw [if_pos e]
              exact ⟨hq1, HQN.out.1, HHH.out.symm⟩
            · rw [if_neg e]
              exact HH.out k (by omega)
          case measure => have := HQN.out; simp [intOf] <;> omega
        · go_wp2_with fail
          with_reducible refine HHA.out.mono ?_
          rintro e w5 ⟨rfl, rfl⟩
          go_wp2
          go_roundw
          case rel =>
            refine ⟨q + 1, l, X, y, h, by omega, by have := HQN.out; omega, by first | rfl | simp, hlx, Kr, HO, HH, Lib.hid (fun hl v h1 h2 => ?_), HBR⟩
            rcases Nat.lt_or_ge v q with h3 | h3
            · exact HV.out hl v h1 h3
            · obtain rfl : v = q := by omega
              exact HHH.out.symm
          case measure => have := HQN.out; simp [intOf] <;> omega
      · have hl : l = x := by
          rcases Nat.lt_or_ge l x with h1 | h1
          · exfalso
            obtain ⟨v0, hv1, hv2, hv3⟩ := HLD.out.2.2
            have := HV.out h1 v0 hv2 (by omega)
            rw [hv3] at this
            cases this
          · omega
        subst hl
        have hc : Cells wr X l (Dg h) := by
          have h2 := Cells.of_own HO.out
          rw [Nat.mul_one] at h2
          exact h2
        have HC := Lib.hid hc
        have HREL : Hid (∃ (X : Option Addr) (y : Nat) (h : Nat → Nat), Hid (Blk wr rb TR #[.slice E m u, .slice F b v, .slice X l y, .int .i64 0, .string ⟨#[]⟩]) ∧ Hid (Cells wr X l (Dg h)) ∧ Hid (Asc h l n) ∧ Hid (∀ k, k < l → hs f (h k) m = false) ∧ Hid (Below wl.heap.size wl wr)) := Lib.hid ⟨X, y, h, Kr, HC, Lib.hid (fun k hk => ⟨(HH.out k hk).1, (HH.out k hk).2.1, fun h0 => absurd h0 (by omega)⟩), Lib.hid (fun k hk => (HH.out k hk).2.2), HBR⟩
        by_cases hqn : q ≤ n
        · have k1 : (q : Int) ≤ (n : Int) := by omega
          clear hgo hc HV HH HO
          go_wp2_with fail
          go_meet
          case rel => exact HREL.out
        · have k1 : ((q : Int) ≤ (n : Int)) = False := eq_false (by omega)
          clear hgo hc HV HH HO
          go_wp2_with fail
          go_meet
          case rel => exact HREL.out
  obtain ⟨X, y, h, Kr, HX, HAX, HDJ, HBX⟩ := hcut
  rename World => wx
  replace HB := Lib.hid (Below.on HB.out HBX.out)
  replace Kg := Lib.hid (Kg.out.keep HBX.out)
  replace Ko := Lib.hid (Ko.out.keep HBX.out)
  replace HD := Lib.hid (HD.out.below HBX.out)
  replace HCO := Lib.hid (HCO.out.below HBX.out)
  replace HE := Lib.hid (HE.out.below HBX.out)
  replace HF := Lib.hid (HF.out.below HBX.out)
  have hT7 : nT m b ≤ 7 := HG.out.hT2
  have g21 : wx.cell? ⟨gb, 21, none⟩ = some (.slice D (nT m b) k) := Kg.out.cell 21
  clear HBX Kl HRB HBR
  go_wp2_with (at_make; refine wpList_make_full _ rfl _ _ 37 rfl wx.heap.size 3 i0 (.int .i64 0) 1 Tryz.underlying37 hi hz0 hz1 _ _ _ _ (nT m b) rfl rfl ?c1 ?c2 ?c3 ?c4 ?c5 ?_)
  case c1 => first | omega | rfl
  case c2 => first | omega | rfl
  case c3 => rw [hz2]; omega
  case c4 => unfold maxLen; omega
  case c5 => exact Nat.le_refl _
  intro w4 hown1 hgr1
  have HB4 : Hid (Below wx.heap.size wx w4) := Lib.hid ((Below.refl _ _).grown hgr1 (Nat.le_refl _) (by simp))
  have HO4 : Hid (w4.ownsRow wx.heap.size 3 1 (.slice (some ⟨wx.heap.size, 0, none⟩) (nT m b) (nT m b)) (nT m b) (row (nT m b * 1) (Dg fun t => cnts n m c b dd t 0))) := Lib.hid (own_congr (F' := Dg fun t => cnts n m c b dd t 0) (made_own (z := .int .i64 0) hown1) fun j hj => rfl)
  obtain ⟨cb, hcb⟩ : ∃ z, z = wx.heap.size := ⟨_, rfl⟩
  rw [show (some (⟨wx.heap.size, 0, none⟩ : Addr)) = some ⟨cb, 0, none⟩ by rw [hcb]] at HO4 ⊢
  have HCB := Lib.hid hcb
  clear hown1 hgr1 g21 hcb
  go_wp2
  go_loopw [14] (fun s14 wr => ∃ i : Nat, i ≤ L ∧ s14 = .int .i64 (i : Int) ∧ Hid (wr.ownsRow wx.heap.size 3 1 (.slice (some ⟨cb, 0, none⟩) (nT m b) (nT m b)) (nT m b) (row (nT m b * 1) (Dg fun t => cnts n m c b dd t i))) ∧ Hid (Below wx.heap.size wx wr)) (fun i _ => L - (intOf i).toNat)
  case atStart => exact ⟨0, Nat.zero_le _, rfl, HO4, HB4⟩
  case round =>
    clear HO4 HB4
    obtain ⟨i, hi2, rfl, HO, HBW⟩ := hrel
    rename World => wr
    by_cases hiL : i < L
    · have HIL := Lib.hid hiL
      have Kg1 := Lib.hid (Kg.out.keep HBW.out)
      have HLN := Lib.hid (HLI.out i hiL)
      have HUI := Lib.hid (HUN.out wr (HD.out.below HBW.out) i hiL)
      have yi : IntKind.i64.wrap ((i : Int) + 1) = ((i + 1 : Nat) : Int) := by rw [IntWalk.i64_in _ (by omega)]; omega
      go_wp2_with (refine wpList_load_row rfl TG _ rfl gb rfl TG _ (0, 0) _ Kg1.out Tryz.underlying27 rfl (by kernel_rfl) ?_)
      go_wp2_with fail
      with_reducible refine HUI.out.mono ?_
      rintro e w5 ⟨⟨E2, F2, u2, v2, rfl, hE2, hF2, _, _, hu2, hv2⟩, hb5⟩
      replace HO := Lib.hid (own_keep HO.out hb5)
      replace HBW := Lib.hid (Below.on HBW.out hb5)
      have HE2 := Lib.hid hE2
      have HF2 := Lib.hid hF2
      have HUV2 := Lib.hid (show m ≤ u2 ∧ b ≤ v2 from ⟨hu2, hv2⟩)
      clear hE2 hF2 hu2 hv2 hb5 HUI Kg1
      go_upto_region 20 with (fail)
      obtain ⟨wn, hwn⟩ : ∃ wn, wn = w5.alloc (.cells #[.slice E2 m u2, .slice F2 b v2] TL) := ⟨_, rfl⟩
      change Code.wp _ _ _ _ (w5.alloc (.cells #[.slice E2 m u2, .slice F2 b v2] TL))
      obtain ⟨nb, hnb⟩ : ∃ g, g = w5.heap.size := ⟨_, rfl⟩
      have hbn : Below w5.heap.size w5 wn := by rw [hwn]; exact (Below.refl _ _).alloc (Nat.le_refl _) _
      have Kn : Hid (Blk wn nb TL #[.slice E2 m u2, .slice F2 b v2]) := by rw [hwn, hnb]; exact Lib.hid (Blk.new w5 TL _)
      rw [← hwn, show (Value.pointer (some ⟨w5.heap.size, 0, none⟩)) = .pointer (some ⟨nb, 0, none⟩) by rw [hnb]]
      replace HO := Lib.hid (own_keep HO.out hbn)
      replace HBW := Lib.hid (Below.on HBW.out hbn)
      replace HE2 := Lib.hid (HE2.out.below hbn)
      replace HF2 := Lib.hid (HF2.out.below hbn)
      have Kg1 := Lib.hid (Kg.out.keep HBW.out)
      have Kr1 := Lib.hid (Kr.out.keep HBW.out)
      have l0 : wn.cell? ⟨nb, 0, none⟩ = some (.slice E2 m u2) := Kn.out.cell 0
      have l1 : wn.cell? ⟨nb, 1, none⟩ = some (.slice F2 b v2) := Kn.out.cell 1
      have r0 : wn.cell? ⟨rb, 0, none⟩ = some (.slice E m u) := Kr1.out.cell 0
      have r1 : wn.cell? ⟨rb, 1, none⟩ = some (.slice F b v) := Kr1.out.cell 1
      have r2 : wn.cell? ⟨rb, 2, none⟩ = some (.slice X x y) := Kr1.out.cell 2
      have r3 : wn.cell? ⟨rb, 3, none⟩ = some (.int .i64 0) := Kr1.out.cell 3
      have r4 : wn.cell? ⟨rb, 4, none⟩ = some (.string ⟨#[]⟩) := Kr1.out.cell 4
      have HTR := Lib.hid (tier_tg (u := u2) (v := v2) (u2 := u) (v2 := v) (y := y) wn HG.out (HD.out.below HBW.out) HUV2.out.1 HUV2.out.2 HE2.out HF2.out HLN.out.1 HLN.out.2.1 (HE.out.below HBW.out) (HF.out.below HBW.out) (HX.out.below HBW.out) HLD.out.1 HLD.out.2.1 HAX.out HDJ.out)
      obtain ⟨o, ho⟩ : ∃ o, o = first (tP m b) (tQ b) (cm (fm n m c b i) f m m) (cm (gm c b i) g b b) (nT m b) := ⟨_, rfl⟩
      rw [← ho] at HTR
      have HTO := Lib.hid (show tr n m c b i dd = o by rw [ho, HFG.out.1, HFG.out.2]; rfl)
      have HOT := Lib.hid (fun t (h : o = some t) => first_lt (ho.symm.trans h))
      clear ho hwn hnb hbn Kn Kr1
      go_wp2_with (refine wpList_load_row rfl TG _ rfl gb rfl TG _ (0, 0) _ Kg1.out Tryz.underlying27 rfl (by kernel_rfl) ?_)
      go_wp2_with fail
      with_reducible refine HTR.out.mono ?_
      rintro e w6 ⟨rfl, hb6⟩
      replace HO := Lib.hid (own_keep HO.out hb6)
      replace HBW := Lib.hid (Below.on HBW.out hb6)
      clear HTR hb6 l0 l1 r0 r1 r2 r3 r4 HE2 HF2 Kg1
      cases o with
      | none =>
        have e1 : tno none = -1 := rfl
        rw [e1]
        have e2 : (((nT m b : Nat) : Int) ≤ -1) = False := eq_false (by omega)
        have HO5 := Lib.hid (own_congr (F' := Dg fun t => cnts n m c b dd t (i + 1)) HO.out fun j hj => by show Value.int .i64 ((cnts n m c b dd j i : Nat) : Int) = .int .i64 ((cnts n m c b dd j (i + 1) : Nat) : Int); rw [cnts_none HTO.out])
        clear HO HOT
        go_wp2
        go_roundw
        case rel => exact ⟨i + 1, HIL.out, by first | rfl | simp, HO5, HBW⟩
        case measure => have := HIL.out; simp [intOf] <;> omega
      | some t =>
        have htT := HOT.out t rfl
        have e1 : tno (some t) = ((t : Nat) : Int) := rfl
        rw [e1]
        have e2 : (((nT m b : Nat) : Int) ≤ ((t : Nat) : Int)) = False := eq_false (by omega)
        have e3 : ((t : Nat) : Int) < ((nT m b : Nat) : Int) := by omega
        have qa := own_at HO.out htT
        have hcl := cnts_le (n := n) (m := m) (c := c) (b := b) (d := dd) (t := t) i
        obtain ⟨z, hz⟩ : ∃ z, z = cnts n m c b dd t i := ⟨_, rfl⟩
        have q1 : w6.cell? ⟨cb, t, none⟩ = some (.int .i64 ((z : Nat) : Int)) := by rw [hz]; exact qa.1
        have q2 := qa.2
        rw [← hz] at hcl
        have yz : IntKind.i64.wrap ((z : Int) + 1) = ((z + 1 : Nat) : Int) := by rw [IntWalk.i64_in _ (by omega)]; omega
        have hput := own_put (F' := Dg fun t => cnts n m c b dd t (i + 1)) (k := t) (u := .int .i64 ((z + 1 : Nat) : Int)) HO.out fun j hj => by
          show Value.int .i64 ((cnts n m c b dd j (i + 1) : Nat) : Int) = if j = t then .int .i64 ((z + 1 : Nat) : Int) else .int .i64 ((cnts n m c b dd j i : Nat) : Int)
          rw [cnts_some HTO.out, hz]
          split <;> rfl
        have HO5 := Lib.hid hput.1
        have HB5 := Lib.hid (HBW.out.setCell (p := ⟨cb, t, none⟩) (show wx.heap.size ≤ cb by have := HCB.out; omega) (.int .i64 ((z + 1 : Nat) : Int)))
        have HZ := Lib.hid hz
        clear HO HOT hput qa hz HBW
        go_wp2
        go_roundw
        case rel => exact ⟨i + 1, HIL.out, by first | rfl | simp, HO5, HB5⟩
        case measure => have := HIL.out; simp [intOf] <;> omega
    · obtain rfl : L = i := by omega
      have HCC := Lib.hid (Cells.of_own HO.out)
      clear HO
      rename World => wv
      replace Kg := Lib.hid (Kg.out.keep HBW.out)
      replace Ko := Lib.hid (Ko.out.keep HBW.out)
      replace HD := Lib.hid (HD.out.below HBW.out)
      replace HCO := Lib.hid (HCO.out.below HBW.out)
      replace HB := Lib.hid (Below.on HB.out HBW.out)
      clear HE HF HX HAX HDJ HUN HLI HLD HFG HUV Kr HCB hi hz0 hz1 hz2 HBW
      have hb0 : Below wv.heap.size wv wv := Below.refl _ _
      have HB0 := Lib.hid hb0
      clear hb0
      go_wp2
      go_loopw [133] (fun s133 wr => ∃ t : Nat, t ≤ nT m b ∧ s133 = .int .i64 (t : Int) ∧ Hid (Below wv.heap.size wv wr)) (fun i _ => nT m b - (intOf i).toNat)
      case atStart => exact ⟨0, Nat.zero_le _, rfl, HB0⟩
      case round =>
        clear HB0
        obtain ⟨t, ht2, rfl, HBW⟩ := hrel
        rename World => wr
        by_cases htT : t < nT m b
        · have HTT := Lib.hid htT
          have Kg1 := Lib.hid (Kg.out.keep HBW.out)
          have HWI := Lib.hid (winning_tg wr HG.out (HD.out.below HBW.out) htT)
          obtain ⟨W, hW⟩ : ∃ W, W = WN t m n x b c := ⟨_, rfl⟩
          obtain ⟨K, hK⟩ : ∃ K, K = cnts n m c b dd t L := ⟨_, rfl⟩
          rw [show sW (ta (tP m b) (tQ b) (nT m b) t m n x b c) (b + 1) (x + 1) (m + 1) = W from hW.symm] at HWI
          have hcl := cnts_le (n := n) (m := m) (c := c) (b := b) (d := dd) (t := t) L
          have HEQ : Hid (W * L = N * K) := Lib.hid (by have := HGD.out t dd htT HDL.out; rw [← HL.out] at this; rw [hW, hK, HN.out]; exact this)
          have HNK : Hid (N * K < 18446744073709551616 ∧ N < 18446744073709551616 ∧ K < 18446744073709551616) := by
            have h1 : N ≤ 1000000 := by rw [HN.out]; exact HOL.out
            have h2 : K ≤ 10000 := by rw [hK]; exact Nat.le_trans hcl hL4
            exact Lib.hid ⟨Nat.lt_of_le_of_lt (Nat.mul_le_mul h1 h2) (by decide), by omega, by omega⟩
          have HWB : Hid (W < 18446744073709551616 ∧ L < 18446744073709551616) := Lib.hid ⟨Nat.lt_of_le_of_lt (Nat.le_mul_of_pos_right W hL1) (by rw [HEQ.out]; exact HNK.out.1), by omega⟩
          have HKC : Hid (∀ w', Below wv.heap.size wv w' → w'.cell? ⟨cb, t, none⟩ = some (.int .i64 (K : Int))) := Lib.hid fun w' hw => by
            obtain ⟨b0, off, e, hlt, hc⟩ := (HCC.out.below hw).dg (k := t) (by omega)
            injection e with e
            injection e with e1 e2
            subst e1 e2
            rw [Nat.zero_add] at hc
            rw [hK]
            exact hc
          clear hW hK hcl
          go_wp2_with (refine wpList_load_row rfl TG _ rfl gb rfl TG _ (0, 0) _ Kg1.out Tryz.underlying27 rfl (by kernel_rfl) ?_)
          go_wp2_with fail
          with_reducible refine HWI.out.mono ?_
          rintro e wq ⟨⟨D1, l1, c1, rfl, hl1, hc1, _⟩, hb5⟩
          replace HBW := Lib.hid (Below.on HBW.out hb5)
          have HL1 := Lib.hid hl1
          have HC1 := Lib.hid hc1
          clear hl1 hc1 hb5 HWI Kg1
          go_upto_region 29 with (fail)
          obtain ⟨wp, hwp⟩ : ∃ wn, wn = wq.alloc (.cells #[.slice D1 l1 c1] TN) := ⟨_, rfl⟩
          change Code.wp _ _ _ _ (wq.alloc (.cells #[.slice D1 l1 c1] TN))
          obtain ⟨pb, hpb⟩ : ∃ g, g = wq.heap.size := ⟨_, rfl⟩
          have hbp : Below wq.heap.size wq wp := by rw [hwp]; exact (Below.refl _ _).alloc (Nat.le_refl _) _
          have Kp : Hid (Blk wp pb TN #[.slice D1 l1 c1]) := by rw [hwp, hpb]; exact Lib.hid (Blk.new wq TN _)
          rw [← hwp, show (Value.pointer (some ⟨wq.heap.size, 0, none⟩)) = .pointer (some ⟨pb, 0, none⟩) by rw [hpb]]
          replace HBW := Lib.hid (Below.on HBW.out hbp)
          replace HC1 := Lib.hid (HC1.out.below hbp)
          clear hwp hpb hbp
          have vL : IntKind.u64.wrap (L : Int) = (L : Int) := IntWalk.u64_in _ (by omega)
          have HALL : Hid (∀ wz, Below wp.heap.size wp wz → wz.cell? ⟨pb, 0, none⟩ = some (.slice D1 l1 c1) ∧ Below wp.heap.size wp wz) := Lib.hid fun wz hz => ⟨(Kp.out.keep hz).cell 0, hz⟩
          have HOF := Lib.hid (fun (w' : World) (hw : Below wp.heap.size wp w') => of_gs w' wp HWB.out.2 hw)
          have HMU := Lib.hid (fun (w' : World) (D : Option Addr) (l c : Nat) (h1 : Hid (l = L32 L)) (h2 : Hid (Cells w' D l (Lm (d32 L)))) (hw : Below wp.heap.size wp w') => mul_gs (W := W) (L := L) (l1 := l1) (c1 := c1) (c := c) w' wp HWB.out.1 HWB.out.2 (by rw [HEQ.out]; exact HNK.out.1) HL1.out HC1.out h1 h2 hw)
          have A0 : Below wp.heap.size wp wp.drew := (Below.refl _ _).drew
          go_cut [22, 23] (fun s22 s23 wx => s23 = .int .i64 0 ∧ Hid (Bx wp wx s22 (W * L)))
          case first =>
            go_region_held3 (fun w' => w'.cell? ⟨pb, 0, none⟩ = some (.slice D1 l1 c1) ∧ Below wp.heap.size wp w')
              (first
                | exact HALL.out _ (by assumption)
                | exact HALL.out _ (bx_alloc (by assumption) _)
                | exact HALL.out _ (Below.drew (bx_alloc (Below.refl _ _) _))
                | exact HALL.out _ (Below.setCell (p := ⟨wp.heap.size, 0, none⟩) (by assumption) (Nat.le_refl _) _)
                | exact HALL.out _ (Below.setCell (p := ⟨w5.heap.size, 0, none⟩) (by assumption) t5.size _))
              (first
                | (go_at_call 12; (with_reducible refine (HOF.out _ ?_).mono ?_); (first | assumption | exact Below.drew (bx_alloc (Below.refl _ _) _)); rintro e5 w5 ⟨D5, l5, c5, rfl, hl5, hc5, b5, t5⟩; have h5 := HALL.out _ t5; (try (have kq := bnew1 b5)))
                | (go_at_call 11; (with_reducible refine (HMU.out _ _ _ _ ?_ ?_ ?_).mono ?_); (first | assumption); (first | assumption | exact Lib.hid (hc5.out.alloc _)); (first | assumption | exact bx_alloc t5 _); rintro e6 w6 ⟨P6, l6, c6, rfl, hl6, hc6, hf6, b6, t6⟩; have h6 := HALL.out _ t6; (first | (have kq6 := kq.keep b6; have q0 : w6.cell? ⟨wp.heap.size, 0, none⟩ = some (.slice none 0 0) := kq6.cell 0; have q1 := kq6.frozen 0) | (have kq6 := bnew1' b6; have q0 : w6.cell? ⟨w5.heap.size, 0, none⟩ = some (.slice none 0 0) := kq6.cell 0; have q1 := kq6.frozen 0) | skip))
                | fail)
            all_goals
              go_wp2_with fail
              go_meet
              case rel =>
                refine ⟨rfl, Lib.hid ?_⟩
                first
                  | exact Bx.last t6 hl6.out hc6.out
                  | exact Bx.mid t6 kq6 (Nat.le_refl _) hf6.out kq.lt hl6.out hc6.out
                  | exact Bx.mid t6 kq6 t5.size hf6.out (by rw [World.size_alloc]; omega) hl6.out hc6.out
          clear HALL HOF HMU A0 vL
          obtain ⟨rfl, HBX⟩ := hcut
          rename World => wy
          obtain ⟨bb1, P1, lp1, cp1, rfl, hq1, hlt1, hl1, hc1, hbx⟩ := HBX.out
          have HBW0 := HBW
          replace HBW := Lib.hid (Below.on HBW.out hbx)
          have HQ1 := Lib.hid (show wy.cell? ⟨bb1, 0, none⟩ = some (.slice P1 lp1 cp1) ∧ bb1 < wy.heap.size ∧ lp1 = L32 (W * L) ∧ Cells wy P1 lp1 (Lm (d32 (W * L))) from ⟨hq1, hlt1, hl1, hc1⟩)
          have HCY := Lib.hid (HCO.out.below HBW.out)
          clear HBX hq1 hlt1 hl1 hc1 hbx HBW0 HL1 HC1 Kp
          go_upto_region 30 with (fail)
          have vK : IntKind.u64.wrap (K : Int) = (K : Int) := IntWalk.u64_in _ (by have := HNK.out.2.2; omega)
          have k1 : (0 : Int) ≤ (t : Int) := by omega
          have k2 : (t : Int) < ((nT m b : Nat) : Int) := by omega
          have HALL : Hid (∀ wz, Below wy.heap.size wy wz → (wz.cell? ⟨ob, 0, none⟩ = some (.slice Do lo co) ∧ wz.cell? ⟨cb, t, none⟩ = some (.int .i64 (K : Int))) ∧ Below wy.heap.size wy wz) := Lib.hid fun wz hz => ⟨⟨(Ko.out.keep (Below.on HBW.out hz)).cell 0, HKC.out wz (Below.on HBW.out hz)⟩, hz⟩
          have HOF := Lib.hid (fun (w' : World) (hw : Below wy.heap.size wy w') => of_gs w' wy HNK.out.2.2 hw)
          have HMU := Lib.hid (fun (w' : World) (D : Option Addr) (l c : Nat) (h1 : Hid (l = L32 K)) (h2 : Hid (Cells w' D l (Lm (d32 K)))) (hw : Below wy.heap.size wy w') => mul_gs (W := N) (L := K) (l1 := lo) (c1 := co) (c := c) w' wy HNK.out.2.1 HNK.out.2.2 HNK.out.1 HLO.out HCY.out h1 h2 hw)
          have A0 : Below wy.heap.size wy wy.drew := (Below.refl _ _).drew
          go_cut [24, 25] (fun s24 s25 wx => s25 = .int .i64 0 ∧ Hid (Bx wy wx s24 (N * K)))
          case first =>
            go_region_held3 (fun w' => (w'.cell? ⟨ob, 0, none⟩ = some (.slice Do lo co) ∧ w'.cell? ⟨cb, t, none⟩ = some (.int .i64 (K : Int))) ∧ Below wy.heap.size wy w')
              (first
                | exact HALL.out _ (by assumption)
                | exact HALL.out _ (bx_alloc (by assumption) _)
                | exact HALL.out _ (Below.drew (bx_alloc (Below.refl _ _) _))
                | exact HALL.out _ (Below.setCell (p := ⟨wy.heap.size, 0, none⟩) (by assumption) (Nat.le_refl _) _)
                | exact HALL.out _ (Below.setCell (p := ⟨w5.heap.size, 0, none⟩) (by assumption) t5.size _))
              (first
                | (go_at_call 12; (with_reducible refine (HOF.out _ ?_).mono ?_); (first | assumption | exact Below.drew (bx_alloc (Below.refl _ _) _)); rintro e5 w5 ⟨D5, l5, c5, rfl, hl5, hc5, b5, t5⟩; have h5 := HALL.out _ t5; (try (have kq := bnew1 b5)))
                | (go_at_call 11; (with_reducible refine (HMU.out _ _ _ _ ?_ ?_ ?_).mono ?_); (first | assumption); (first | assumption | exact Lib.hid (hc5.out.alloc _)); (first | assumption | exact bx_alloc t5 _); rintro e6 w6 ⟨P6, l6, c6, rfl, hl6, hc6, hf6, b6, t6⟩; have h6 := HALL.out _ t6; (first | (have kq6 := kq.keep b6; have q0 : w6.cell? ⟨wy.heap.size, 0, none⟩ = some (.slice none 0 0) := kq6.cell 0; have q1 := kq6.frozen 0) | (have kq6 := bnew1' b6; have q0 : w6.cell? ⟨w5.heap.size, 0, none⟩ = some (.slice none 0 0) := kq6.cell 0; have q1 := kq6.frozen 0) | skip))
                | fail)
            all_goals
              go_wp2_with fail
              go_meet
              case rel =>
                refine ⟨rfl, Lib.hid ?_⟩
                first
                  | exact Bx.last t6 hl6.out hc6.out
                  | exact Bx.mid t6 kq6 (Nat.le_refl _) hf6.out kq.lt hl6.out hc6.out
                  | exact Bx.mid t6 kq6 t5.size hf6.out (by rw [World.size_alloc]; omega) hl6.out hc6.out
          clear HALL HOF HMU A0 vK k1 k2
          obtain ⟨rfl, HBX⟩ := hcut
          rename World => wz
          obtain ⟨bb2, P2, lp2, cp2, rfl, hq2, hlt2, hl2, hc2, hbx⟩ := HBX.out
          replace HBW := Lib.hid (Below.on HBW.out hbx)
          have q22 : wz.cell? ⟨bb1, 0, none⟩ = some (.slice P1 lp1 cp1) := cell_on HQ1.out.1 HQ1.out.2.1 hbx
          have q24 : wz.cell? ⟨bb2, 0, none⟩ = some (.slice P2 lp2 cp2) := hq2
          have HCM := Lib.hid (ncmp_any (w := wz) (c := cp1) (c' := cp2) (x := W * L) (y := N * K) (by rw [HQ1.out.2.2.1, HEQ.out]; exact len2 HNK.out.1) (by rw [hl2]; exact len2 HNK.out.1) HQ1.out.2.2.1 hl2 (HQ1.out.2.2.2.below hbx) hc2)
          rw [cmp_eq HEQ.out] at HCM
          unfold natv at HCM
          clear HBX hq2 hlt2 hl2 hc2 hbx HQ1 HCY
          go_wp2_with fail
          with_reducible refine HCM.out.mono ?_
          rintro e w9 ⟨rfl, hb9⟩
          replace HBW := Lib.hid (Below.on HBW.out hb9)
          clear HCM hb9 q22 q24
          go_wp2
          go_roundw
          case rel => exact ⟨t + 1, HTT.out, by first | rfl | simp, HBW⟩
          case measure => have := HTT.out; simp [intOf] <;> omega
        · go_wp2
          go_ret
          exact ⟨rfl, Below.on HB.out HBW.out⟩
end Tp
end Go.Proofs.YtdcmpnjhomhhiaaGreat
