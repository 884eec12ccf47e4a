/- The walk of the law ReplicaCommits. -/
import Derived.Test.YtdbpbpnbcjbchaaRepCmP
import Derived.Test.YtdbpbpnbcjbchaaRepSep
import Derived.Deep.AppendLies
import Derived.Deep.Strs
set_option linter.unusedVariables false
namespace Go.Proofs.Ytdbpbpnbcjbchaa
open Go.RowKit Go.ChangeShapes Go.WideShapes Go.Deep
theorem open_texts {H : Type} {enc : TypeId × Value → H} {W : World} {base : Nat} {v : Value} {d : DataW H} {p : List MemPlace}
    (hv : Value.okWide Try.prog W .any base 22 v) (hj : DataW.Trod enc Try.prog W 0 (fun _ => true) true 22 v d p) :
    ∃ (A : Option Addr) (n c : Nat) (T : Nat → ByteArray), v = .slice A n c ∧ n ≤ c ∧ c ≤ maxLen ∧ Cells W A (n * 1) (fun j => .string (T j)) ∧ ∀ i, i < n → (T i).size ≤ maxLen := by
  obtain ⟨a0, len, cap, rfl⟩ := okWide_slice Try.underlying22 hv
  obtain ⟨fuel, hf⟩ := hj
  rcases open_strs Try.underlying22 Try.underlying9 (by kernel_rfl) hf with ⟨hcs, _⟩ | ⟨a, l, c, m, Sx, hcs, _, hl, hc, hm, _, hi⟩
  · simp [Value.cells] at hcs
    obtain ⟨rfl, rfl, rfl⟩ := hcs
    exact ⟨none, 0, 0, fun _ => ByteArray.empty, rfl, Nat.le_refl _, Nat.zero_le _, Cells.nil, fun i hi => absurd hi (by omega)⟩
  · simp [Value.cells] at hcs
    obtain ⟨rfl, rfl, rfl⟩ := hcs
    have hm' : len ≤ m := by rw [hm]; split <;> omega
    exact ⟨some a, len, cap, Sx, rfl, hl, hc, Cells.mk_ fun j hj => (hi j (by omega)).1, fun i hi' => (hi i (by omega)).2⟩
namespace Rp
theorem row_str (d : List ByteArray) (t : ByteArray) : row ((d ++ [t]).length * 1) (Str (d ++ [t])) = row (d.length * 1) (Str d) ++ [.string t] := by
  rw [List.length_append, List.length_singleton, Nat.mul_one, Nat.mul_one, row_one]
  congr 1
  · refine row_congr fun j hj => ?_
    unfold Str
    rw [List.getD_eq_getElem?_getD, List.getD_eq_getElem?_getD, List.getElem?_append_left hj]
  · unfold Str
    rw [List.getD_eq_getElem?_getD, List.getElem?_append_right (Nat.le_refl _)]
    simp
/-- What the law knows in a round. -/
structure Rd (W w : World) (n : Nat) (s : St) (want : Value) (d : List ByteArray) : Prop where
  sep : ∃ lv cv, Gp W.heap.size w W.heap.size n s lv cv ∧ (want.ownBlock = none ∨ want.ownBlock ≠ cv.ownBlock)
  below : Below W.heap.size W w
  own : w.ownsRow W.heap.size 9 1 want d.length (row (d.length * 1) (Str d))
theorem Rd.at_ {W w : World} {n : Nat} {s : St} {v : Value} {d : List ByteArray} (r : Rd W w n s v d) : At W w W.heap.size n s := by
  obtain ⟨lv, cv, c, _⟩ := r.sep
  exact ⟨⟨lv, cv, c⟩, r.below⟩
theorem Rd.keep {W w w1 : World} {n : Nat} {s : St} {v : Value} {d : List ByteArray} (r : Rd W w n s v d) (h : Below w.heap.size w w1) : Rd W w1 n s v d := by
  obtain ⟨lv, cv, c, hs⟩ := r.sep
  exact ⟨⟨lv, cv, c.keep h, hs⟩, Below.on r.below h, own_keep r.own h⟩
theorem Rd.drawn {W w w1 : World} {n : Nat} {s : St} {v : Value} {d : List ByteArray} (r : Rd W w n s v d) (h : Dn w w1) : Rd W w1 n s v d := by
  obtain ⟨k, rfl⟩ := h
  exact r.keep (below_drewN (Below.refl _ _) k)
theorem Rd.did {W w w1 : World} {n : Nat} {s s1 : St} {v cv : Value} {d : List ByteArray} (r : Rd W w n s v d) (hs : v.ownBlock = none ∨ v.ownBlock ≠ cv.ownBlock) (h : Did W.heap.size w w1 W.heap.size n s1) (ho : ObjS W.heap.size w1 W.heap.size n s1 w cv) : Rd W w1 n s1 v d := by
  obtain ⟨lv', cv', c', hf⟩ := ho
  refine ⟨⟨lv', cv', c', ?_⟩, r.below.trans h.below, Kp.own (B' := 0) r.own h.kp (by decide) (by decide)⟩
  rcases hf with rfl | hf
  · exact hs
  · cases hv : v.ownBlock with
    | none => exact .inl rfl
    | some k => exact .inr fun e => by have := hf k e.symm; have := (r.own.lt k hv).2; omega
theorem prop_rd {W w : World} {n : Nat} {s : St} {v : Value} {d : List ByteArray} {l : Log} {t : ByteArray} (r : Rd W w n s v d) (hb : Cb n s l) (h1 : 1 ≤ n) (hl : l.length < 1024) (ht : t.size ≤ 20) :
    Calls Try.prog 12 #[.pointer (some ⟨W.heap.size, 0, none⟩), .int .i64 0, .string t] w fun e w' => e = .returned (.tuple #[.int .i64 ((l.length + 1 : Nat) : Int), .int .i64 0]) ∧ Rd W w' n (Rp.upd n (pushed s 0 t) 0) v d := by
  obtain ⟨lv, cv, c, hs⟩ := r.sep
  refine Calls.mono (propose_s (i := 0) (t := t) c h1 (hb.ldr h1) ht (by rw [hb.log]; exact hl)) ?_
  rintro e w' ⟨rfl, hd, ho⟩
  exact ⟨by rw [hb.log], r.did hs hd ho⟩
theorem copy_rd {W w : World} {n j : Nat} {s : St} {v : Value} {d : List ByteArray} (r : Rd W w n s v d) (h1 : 1 ≤ n) (hj : 1 ≤ j) (hjn : j < n) (hy : cpe s 0 j = 0) :
    Calls Try.prog 15 #[.pointer (some ⟨W.heap.size, 0, none⟩), .int .i64 0, .int .i64 (j : Int)] w fun e w' => e = .returned (.int .i64 0) ∧ Rd W w' n (Rp.upd n (copied s 0 j) 0) v d := by
  obtain ⟨lv, cv, c, hs⟩ := r.sep
  refine Calls.mono (copy_s (i := 0) (j := j) c h1 hjn (by omega) hy) ?_
  rintro e w' ⟨rfl, hd, ho⟩
  exact ⟨rfl, r.did hs hd ho⟩
/-- The wanted texts have grown. -/
theorem Rd.grow {W w w1 : World} {n g cap : Nat} {s : St} {v : Value} {d : List ByteArray} {t : ByteArray} {o : Go.Obj} (r : Rd W w n s v d) (hg : (w.alloc o).grownBy w1 v.ownBlock) (hv : w1.ownsRow W.heap.size 9 1 (.slice (some ⟨g, 0, none⟩) (d.length + 1) cap) (d.length + 1) (row (d.length * 1) (Str d) ++ [.string t])) (hl : v.ownBlock = some g ∨ g = w.heap.size + 1) :
    Rd W w1 n s (.slice (some ⟨g, 0, none⟩) (d.length + 1) cap) (d ++ [t]) := by
  obtain ⟨lv, cv, c, hs⟩ := r.sep
  have hal : Below w.heap.size w (w.alloc o) := (Below.refl w.heap.size w).alloc (Nat.le_refl _) o
  have ca := c.keep hal
  have ro := own_keep r.own hal
  have hcv : cv.ownBlock = none ∨ cv.ownBlock ≠ v.ownBlock := by
    rcases hs with h | h
    · cases hc : cv.ownBlock with
      | none => exact .inl rfl
      | some k => right; rw [h]; exact fun x => by cases x
    · exact .inr fun e => h e.symm
  have hh : some W.heap.size ≠ v.ownBlock := fun e => by
    have hb := ca.blk
    unfold Arr Blk at hb
    obtain ⟨cur, hc⟩ := own_obj ro e.symm
    rw [hb] at hc
    injection hc with hc
    injection hc with _ hc
    revert hc; decide
  refine ⟨⟨lv, cv, ⟨Blk.grown ca.blk hg hh, fun i hi => (ca.own i hi).kept hg (own_types (ca.own i hi) ro (by decide)), ca.cow.kept hg hcv, ca.dif, ca.hB, ca.n1, ca.n7, ca.zero, ca.l, ca.e⟩, ?_⟩, ?_, ?_⟩
  · right
    show some g ≠ cv.ownBlock
    rcases hl with h | h
    · rcases hs with h2 | h2
      · rw [h2] at h; cases h
      · rw [h] at h2; exact h2
    · intro e
      have := (c.cow.lt g e.symm).2
      omega
  · exact (Below.on r.below hal).grown hg (Nat.le_trans r.below.size hal.size) (fun k hk => (ro.lt k hk).1)
  · rw [row_str, List.length_append, List.length_singleton]
    exact hv
set_option maxHeartbeats 8000000 in
set_option maxRecDepth 100000 in
theorem commits_u (W : World) {u : Nat} (hu : u < 256) {D : Option Addr} {m c : Nat} {T : Nat → ByteArray} (hm : m ≤ c) (hc : c ≤ maxLen) (hD : Cells W D (m * 1) (fun j => .string (T j))) (hs : ∀ i, i < m → (T i).size ≤ maxLen) :
    Calls Try.prog 3 #[.int .u8 (u : Int), .slice D m c] W fun e w' => e = .returned (.bool true) ∧ Below W.heap.size W w' := by
  obtain ⟨i0, hi, hz0, hz1, hz2⟩ := info_parts Try.infoStr
  unfold maxLen at hc
  have q1 : Int.tmod (u : Int) 7 = ((u % 7 : Nat) : Int) := by rw [Int.tmod_eq_emod_of_nonneg (by omega)]; omega
  obtain ⟨r, hr⟩ : ∃ r, r = u % 7 := ⟨_, rfl⟩
  rw [← hr] at q1
  have hr7 : r < 7 := by omega
  have q2 : IntKind.u8.wrap (r : Int) = (r : Int) := IntWalk.u8_in _ (by omega)
  have q3 : IntKind.i64.wrap (r : Int) = (r : Int) := IntWalk.i64_in _ (by omega)
  have q4 : IntKind.i64.wrap ((r : Int) + 1) = (r : Int) + 1 := IntWalk.i64_in _ (by omega)
  have HD := Lib.hid hD
  have HS := Lib.hid hs
  have H0 := Lib.hid (fst0 (n := r + 1) (by omega)).1
  have HB0 := Lib.hid (cb0 (n := r + 1) (by omega))
  clear hD hs hr
  go_enter Try.func3, Try.ntmps3
  go_wp2_with fail
  refine (new_int W (n := r + 1) (by omega) (by omega) (by omega)).mono ?_
  rintro e w1 ⟨rfl, ha⟩
  have HA := Lib.hid ha
  clear ha
  go_wp2_with fail
  refine (lead_at (z := 0) HA.out.obj lim0 (by omega) H0.out rfl).mono ?_
  rintro e w2 ⟨rfl, hd⟩
  have HR0 := Lib.hid (show Rd W w2 (r + 1) (leadO (r + 1) st0 0).2 (.slice none 0 0) [] from ⟨by obtain ⟨lv, cv, c⟩ := hd.obj; exact ⟨lv, cv, c, .inl rfl⟩, HA.out.below.trans hd.below, World.ownsRow_nil _ _ _ _⟩)
  clear hd HA H0
  go_wp2
  go_loopw [8, 9] (fun v i wr => ∃ (k : Nat) (s : St) (l : Log) (d : List ByteArray), k ≤ m ∧ k ≤ 30 ∧ i = .int .i64 k ∧ Hid (Rd W wr (r + 1) s v d) ∧ Hid (Cb (r + 1) s l) ∧ l.length = k ∧ Hid (d = l.map Prod.snd)) (fun _ i _ => m - (intOf i).toNat)
  case atStart => exact ⟨0, _, [], [], Nat.zero_le _, Nat.zero_le _, rfl, HR0, HB0, rfl, rfl⟩
  case round =>
    clear HR0 HB0
    obtain ⟨k, s, l, d, hk, hk30, rfl, HR, HB, hlk, HDL⟩ := hrel
    by_cases hkn : k < m ∧ k < 30
    · obtain ⟨hkm, hk3⟩ := hkn
      obtain ⟨Dw, cw, hw, hcw⟩ := own_slice HR.out.own
      subst hw
      obtain ⟨b, off, eD, hlt, hcell⟩ := (HD.out.below HR.out.at_.below) (by omega)
      subst eD
      have p0 : wr.cell? ⟨b, off + k, none⟩ = some (.string (T k)) := hcell k (by omega)
      have hsz := HS.out k hkm
      generalize T k = t0 at p0 hsz
      unfold maxLen at hsz
      clear hcell
      have HDK : Hid (d.length = k) := by rw [HDL.out, List.length_map, hlk]; exact rfl
      have hdk30 : d.length < 30 := by rw [HDK.out]; exact hk3
      have hl30 : l.length < 1024 := by omega
      have HLK := Lib.hid hlk
      clear hlk
      have hwk : IntKind.i64.wrap ((k : Int) + 1) = (k : Int) + 1 := IntWalk.i64_in _ (by omega)
      have hcut : (t0.size ≤ 20 ∧ cut20 t0 = t0) ∨ (20 < t0.size ∧ cut20 t0 = t0.extract 0 20) := by
        by_cases h1 : t0.size ≤ 20
        · exact .inl ⟨h1, cut20_all h1⟩
        · exact .inr ⟨by omega, by unfold cut20; rw [Nat.min_eq_right (by omega)]⟩
      rcases hcut with ⟨h1, hct⟩ | ⟨h1, hct⟩
      · have hs1 : ((20 : Int) < (t0.size : Int)) = False := eq_false (by omega)
        have hx1 : t0.extract 0 t0.size = t0 := ByteArray.extract_zero_size
        have HT := Lib.hid (show t0.size ≤ 20 from h1)
        clear hct
        go_wp2
        go_quiet (fail)
        have HR1 := Lib.hid (HR.out.drawn ⟨nq, rfl⟩)
        have HP := Lib.hid (cm_prop HB.out (by omega) (by omega) t0)
        generalize wr.drewN nq = wz at HR1 ⊢
        clear hs1 h1 p0
        go_wp2_with fail
        refine (prop_rd (t := t0) HR1.out HB.out (by omega) hl30 HT.out).mono ?_
        rintro e3 w3 ⟨rfl, hr3⟩
        have HR3 := Lib.hid hr3
        have HC3 := Lib.hid HP.out
        generalize (upd (r + 1) (pushed s 0 t0) 0) = s3 at HR3 HC3
        rw [HLK.out]
        clear hr3
        have hne2 : (((k + 1 : Nat) : Int) != (k : Int) + 1) = false := by simp
        rw [← HDL.out] at HC3
        have hll : d.length + 1 = (l ++ [((1 : Nat), t0)]).length := by rw [List.length_append, List.length_singleton, HLK.out, HDK.out]
        have HLL := Lib.hid hll
        clear HR HR1 HP hll
        go_wp2
        obtain ⟨wo, hwo⟩ : ∃ wo : World, wo = w3 := ⟨_, rfl⟩
        obtain rfl := hwo.symm
        go_loopw [13] (fun j wq => ∃ (tq : Nat) (s4 : St), 1 ≤ tq ∧ 2 * tq ≤ r + 3 ∧ j = .int .i64 tq ∧ Hid (Rd W wq (r + 1) s4 (.slice Dw d.length cw) d) ∧ Hid (Cr (r + 1) s4 (l ++ [((1 : Nat), t0)]) d tq)) (fun j _ => 20 - (intOf j).toNat)
        case atStart => exact ⟨1, s3, Nat.le_refl _, by omega, rfl, HR3, HC3⟩
        case round =>
          clear HR3 HC3
          obtain ⟨tq, s4, ht1, ht2, rfl, HR4, HC4⟩ := hrel
          have hw2 : IntKind.i64.wrap (2 * (tq : Int)) = 2 * (tq : Int) := IntWalk.i64_in _ (by omega)
          by_cases htn : 2 * tq ≤ r + 1
          · have htn' : 2 * (tq : Int) ≤ (r : Int) + 1 := by omega
            have hr1 : (1 : Int) < (r : Int) + 1 := by omega
            have hd4 : s4.done = d := by rw [HC4.out.done, if_neg (by omega)]
            have HN := Lib.hid (cm_copy HC4.out ht1 htn (by omega) HLL.out)
            have HD4 := Lib.hid hd4
            clear hd4
            go_wp2_with fail
            refine (comm_obj HR4.out.at_.obj (by rw [HD4.out]; omega)).mono ?_
            rintro e5 w5 ⟨v5, rfl, hv5, hb5⟩
            rw [HD4.out] at hv5
            obtain ⟨D5, c5, rfl, _⟩ := own_slice hv5
            have HV5 := Lib.hid (Cells.of_own hv5)
            have HR5 := Lib.hid (HR4.out.keep hb5)
            have HW5 := Lib.hid (Cells.of_own HR5.out.own)
            clear hv5 hb5
            go_wp2_with fail
            refine (same_yes (by omega) HV5.out HW5.out (Str_pre (List.prefix_refl _)) (Str_pre (List.prefix_refl _))).mono ?_
            rintro e6 w6 ⟨rfl, hd6⟩
            have HR6 := Lib.hid (HR5.out.drawn hd6)
            clear hd6
            go_wp2_with fail
            refine (copy_rd HR6.out (by omega) ht1 (by omega) HN.out.1).mono ?_
            rintro e7 w7 ⟨rfl, hr7⟩
            have HR7 := Lib.hid hr7
            clear hr7
            go_wp2
            go_roundw
            case rel => exact ⟨tq + 1, _, by omega, by omega, by go_num, HR7, HN.out.2⟩
            case measure => simp [intOf]; omega
          · have htn' : ¬ 2 * (tq : Int) ≤ (r : Int) + 1 := by omega
            have HF := Lib.hid (HC4.out.fin (by omega))
            have hdn : s4.done = d ++ [t0] := by rw [HF.out.done, List.map_append, HDL.out]; rfl
            have HDN := Lib.hid hdn
            clear hdn HC4
            go_wp2_with (at_builtin; refine wpList_append_lies _ rfl _ _ 22 rfl W.heap.size 9 i0 (.string ByteArray.empty) 1 16 Try.underlying22 hi hz0 hz1 hz2 rfl (by decide) _ d.length _ rfl (HR4.out.own.alloc _) ⟨wr.heap.size, 0, none⟩ 1 1 [.string t0] rfl rfl ?c1 ?c2 (by decide) ?c3 ?c4 ?c5 (wr.heap.size + 1) ?c6 ?_)
            try case c1 =>
              intro j u hj
              exact new_cell rfl (by simpa using hj)
            case c2 => first | rfl | (intro u hu; simp at hu; subst hu; rfl)
            case c3 => unfold maxLen; omega
            case c4 => omega
            case c5 => have := HR4.out.below.size; first | omega | (simp; omega)
            try case c6 => simp
            intro g5 cap5 w5 hown5 hgrow5 hat5 hlt5
            have HR5 := Lib.hid (HR4.out.grow hgrow5 (by rw [Nat.mul_one]; exact hown5) hat5)
            clear hown5 hgrow5 hat5 hlt5
            go_wp2_with fail
            refine (comm_obj HR5.out.at_.obj (by rw [HDN.out, List.length_append]; simp; omega)).mono ?_
            rintro e6 w6 ⟨v6, rfl, hv6, hb6⟩
            rw [HDN.out] at hv6
            have hdl : (d ++ [t0]).length = d.length + 1 := by rw [List.length_append]; rfl
            obtain ⟨D6, c6, rfl, _⟩ := own_slice hv6
            have HV6 := Lib.hid (Cells.of_own hv6)
            have HR6 := Lib.hid (HR5.out.keep hb6)
            have ho6 := HR6.out.own
            rw [hdl] at HV6 ho6 ⊢
            have HW6 : Hid (Cells w6 (some ⟨g5, 0, none⟩) ((d.length + 1) * 1) (Str (d ++ [t0]))) := Cells.of_own ho6
            have hpp := Str_pre (List.prefix_refl (d ++ [t0]))
            rw [hdl] at hpp
            have HPP := Lib.hid hpp
            clear hv6 hb6 ho6 hpp hdl
            go_wp2_with fail
            refine (same_yes (by omega) HV6.out HW6.out HPP.out HPP.out).mono ?_
            rintro e7 w7 ⟨rfl, hd7⟩
            have HR7 := Lib.hid (HR6.out.drawn hd7)
            have HDD : Hid (d ++ [t0] = (l ++ [((1 : Nat), t0)]).map Prod.snd) := by rw [List.map_append, HDL.out]; exact rfl
            have hlf : Hid ((l ++ [((1 : Nat), t0)]).length = k + 1) := by rw [← HLL.out, HDK.out]; exact rfl
            clear hd7
            go_wp2
            go_roundw
            case rel => exact ⟨k + 1, s4, l ++ [((1 : Nat), t0)], d ++ [t0], by omega, by omega, by go_num, HR7, HF, hlf.out, HDD⟩
            case measure => simp [intOf] <;> omega
      · have hs1 : ((20 : Int) < (t0.size : Int)) := by omega
        have HT := Lib.hid (show (t0.extract 0 20).size ≤ 20 by rw [← hct]; exact cut20_size _)
        clear hct
        go_wp2
        go_quiet (fail)
        have HR1 := Lib.hid (HR.out.drawn ⟨nq, rfl⟩)
        have HP := Lib.hid (cm_prop HB.out (by omega) (by omega) (t0.extract 0 20))
        generalize wr.drewN nq = wz at HR1 ⊢
        clear hs1 h1 p0
        go_wp2_with fail
        refine (prop_rd (t := (t0.extract 0 20)) HR1.out HB.out (by omega) hl30 HT.out).mono ?_
        rintro e3 w3 ⟨rfl, hr3⟩
        have HR3 := Lib.hid hr3
        have HC3 := Lib.hid HP.out
        generalize (upd (r + 1) (pushed s 0 (t0.extract 0 20)) 0) = s3 at HR3 HC3
        rw [HLK.out]
        clear hr3
        have hne2 : (((k + 1 : Nat) : Int) != (k : Int) + 1) = false := by simp
        rw [← HDL.out] at HC3
        have hll : d.length + 1 = (l ++ [((1 : Nat), (t0.extract 0 20))]).length := by rw [List.length_append, List.length_singleton, HLK.out, HDK.out]
        have HLL := Lib.hid hll
        clear HR HR1 HP hll
        go_wp2
        obtain ⟨wo, hwo⟩ : ∃ wo : World, wo = w3 := ⟨_, rfl⟩
        obtain rfl := hwo.symm
        go_loopw [13] (fun j wq => ∃ (tq : Nat) (s4 : St), 1 ≤ tq ∧ 2 * tq ≤ r + 3 ∧ j = .int .i64 tq ∧ Hid (Rd W wq (r + 1) s4 (.slice Dw d.length cw) d) ∧ Hid (Cr (r + 1) s4 (l ++ [((1 : Nat), (t0.extract 0 20))]) d tq)) (fun j _ => 20 - (intOf j).toNat)
        case atStart => exact ⟨1, s3, Nat.le_refl _, by omega, rfl, HR3, HC3⟩
        case round =>
          clear HR3 HC3
          obtain ⟨tq, s4, ht1, ht2, rfl, HR4, HC4⟩ := hrel
          have hw2 : IntKind.i64.wrap (2 * (tq : Int)) = 2 * (tq : Int) := IntWalk.i64_in _ (by omega)
          by_cases htn : 2 * tq ≤ r + 1
          · have htn' : 2 * (tq : Int) ≤ (r : Int) + 1 := by omega
            have hr1 : (1 : Int) < (r : Int) + 1 := by omega
            have hd4 : s4.done = d := by rw [HC4.out.done, if_neg (by omega)]
            have HN := Lib.hid (cm_copy HC4.out ht1 htn (by omega) HLL.out)
            have HD4 := Lib.hid hd4
            clear hd4
            go_wp2_with fail
            refine (comm_obj HR4.out.at_.obj (by rw [HD4.out]; omega)).mono ?_
            rintro e5 w5 ⟨v5, rfl, hv5, hb5⟩
            rw [HD4.out] at hv5
            obtain ⟨D5, c5, rfl, _⟩ := own_slice hv5
            have HV5 := Lib.hid (Cells.of_own hv5)
            have HR5 := Lib.hid (HR4.out.keep hb5)
            have HW5 := Lib.hid (Cells.of_own HR5.out.own)
            clear hv5 hb5
            go_wp2_with fail
            refine (same_yes (by omega) HV5.out HW5.out (Str_pre (List.prefix_refl _)) (Str_pre (List.prefix_refl _))).mono ?_
            rintro e6 w6 ⟨rfl, hd6⟩
            have HR6 := Lib.hid (HR5.out.drawn hd6)
            clear hd6
            go_wp2_with fail
            refine (copy_rd HR6.out (by omega) ht1 (by omega) HN.out.1).mono ?_
            rintro e7 w7 ⟨rfl, hr7⟩
            have HR7 := Lib.hid hr7
            clear hr7
            go_wp2
            go_roundw
            case rel => exact ⟨tq + 1, _, by omega, by omega, by go_num, HR7, HN.out.2⟩
            case measure => simp [intOf]; omega
          · have htn' : ¬ 2 * (tq : Int) ≤ (r : Int) + 1 := by omega
            have HF := Lib.hid (HC4.out.fin (by omega))
            have hdn : s4.done = d ++ [(t0.extract 0 20)] := by rw [HF.out.done, List.map_append, HDL.out]; rfl
            have HDN := Lib.hid hdn
            clear hdn HC4
            go_wp2_with (at_builtin; refine wpList_append_lies _ rfl _ _ 22 rfl W.heap.size 9 i0 (.string ByteArray.empty) 1 16 Try.underlying22 hi hz0 hz1 hz2 rfl (by decide) _ d.length _ rfl (HR4.out.own.alloc _) ⟨wr.heap.size, 0, none⟩ 1 1 [.string (t0.extract 0 20)] rfl rfl ?k1 ?k2 (by decide) ?k3 ?k4 ?k5 (wr.heap.size + 1) ?k6 ?_)
            try case k1 =>
              intro j u hj
              exact new_cell rfl (by simpa using hj)
            case k2 => first | rfl | (intro u hu; simp at hu; subst hu; rfl)
            case k3 => unfold maxLen; omega
            case k4 => omega
            case k5 => have := HR4.out.below.size; first | omega | (simp; omega)
            try case k6 => simp
            intro g5 cap5 w5 hown5 hgrow5 hat5 hlt5
            have HR5 := Lib.hid (HR4.out.grow hgrow5 (by rw [Nat.mul_one]; exact hown5) hat5)
            clear hown5 hgrow5 hat5 hlt5
            go_wp2_with fail
            refine (comm_obj HR5.out.at_.obj (by rw [HDN.out, List.length_append]; simp; omega)).mono ?_
            rintro e6 w6 ⟨v6, rfl, hv6, hb6⟩
            rw [HDN.out] at hv6
            have hdl : (d ++ [(t0.extract 0 20)]).length = d.length + 1 := by rw [List.length_append]; rfl
            obtain ⟨D6, c6, rfl, _⟩ := own_slice hv6
            have HV6 := Lib.hid (Cells.of_own hv6)
            have HR6 := Lib.hid (HR5.out.keep hb6)
            have ho6 := HR6.out.own
            rw [hdl] at HV6 ho6 ⊢
            have HW6 : Hid (Cells w6 (some ⟨g5, 0, none⟩) ((d.length + 1) * 1) (Str (d ++ [(t0.extract 0 20)]))) := Cells.of_own ho6
            have hpp := Str_pre (List.prefix_refl (d ++ [(t0.extract 0 20)]))
            rw [hdl] at hpp
            have HPP := Lib.hid hpp
            clear hv6 hb6 ho6 hpp hdl
            go_wp2_with fail
            refine (same_yes (by omega) HV6.out HW6.out HPP.out HPP.out).mono ?_
            rintro e7 w7 ⟨rfl, hd7⟩
            have HR7 := Lib.hid (HR6.out.drawn hd7)
            have HDD : Hid (d ++ [(t0.extract 0 20)] = (l ++ [((1 : Nat), (t0.extract 0 20))]).map Prod.snd) := by rw [List.map_append, HDL.out]; exact rfl
            have hlf : Hid ((l ++ [((1 : Nat), (t0.extract 0 20))]).length = k + 1) := by rw [← HLL.out, HDK.out]; exact rfl
            clear hd7
            go_wp2
            go_roundw
            case rel => exact ⟨k + 1, s4, l ++ [((1 : Nat), (t0.extract 0 20))], d ++ [(t0.extract 0 20)], by omega, by omega, by go_num, HR7, HF, hlf.out, HDD⟩
            case measure => simp [intOf] <;> omega
    · have hend : ¬ (k < m) ∨ (k < m ∧ ¬ (k < 30)) := by omega
      clear hkn
      rcases hend with hend | ⟨hend, h30⟩
      all_goals
        go_wp2_with fail
        refine (works51 _).mono ?_
        rintro e w9 ⟨rfl, hb9⟩
        have HBF := Lib.hid (Below.on HR.out.at_.below hb9)
        clear hb9
        go_wp2
        go_ret
        exact ⟨rfl, HBF.out⟩

end Rp
theorem replicaCommits_walk (W : World) (x : Int) (hx : (Lit.int .u8 x).wf = true) {D : Option Addr} {m c : Nat} {T : Nat → ByteArray} (hm : m ≤ c) (hc : c ≤ maxLen) (hD : Cells W D (m * 1) (fun j => .string (T j))) (hs : ∀ i, i < m → (T i).size ≤ maxLen) :
    Calls Try.prog 3 #[.int .u8 x, .slice D m c] W fun e w' => e = .returned (.bool true) ∧ Below W.heap.size W w' := by
  obtain ⟨u, rfl, hu⟩ := Rp.u8_nat hx
  exact Rp.commits_u W hu hm hc hD hs
end Go.Proofs.Ytdbpbpnbcjbchaa
