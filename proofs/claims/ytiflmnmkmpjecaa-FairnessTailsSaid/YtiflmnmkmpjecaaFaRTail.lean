/- The walks of the reference's Tail (55). -/
import Derived.Test.YtiflmnmkmpjecaaG12
import Derived.Test.YtiflmnmkmpjecaaG4
import Derived.Test.YtiflmnmkmpjecaaFrRCmp
import Derived.Test.YtiflmnmkmpjecaaFrRValid
import Derived.Test.YtiflmnmkmpjecaaNatRDiff
set_option linter.unusedVariables false
namespace Go.Proofs.Ytiflmnmkmpjecaa
open Go.RowKit
namespace Fa
open Fr
theorem boxesR (w : World) (S T : Value) : Bs w ((w.alloc (.cells #[S, T] TF)).alloc (.cells #[.slice none 0 0, .slice none 0 0] TF)) [(w.heap.size + 1, TF, #[.slice none 0 0, .slice none 0 0]), (w.heap.size, TF, #[S, T])] := by
  have := ((Bs.nil w).alloc TF #[S, T]).alloc TF #[.slice none 0 0, .slice none 0 0]
  simp only [World.size_alloc] at this
  exact this
theorem sm64 {a : Nat} (ha : a ≤ 10) : L32 a ≤ 64 := Nat.le_trans (fit32_le (N := a) (n := 1) (by unfold Fit32; omega)) (by omega)
theorem one55_one (w : World) :
    Calls Try.prog 40 #[.int .i64 1] w fun e w' => (∃ (Da : Option Addr) (ca : Nat) (Db : Option Addr) (cb' : Nat), e = .returned (.agg #[.slice Da 1 ca, .slice Db 1 cb']) ∧ Cells w' Da 1 (Lm (d32 1)) ∧ Cells w' Db 1 (Lm (d32 1))) ∧ Below w.heap.size w w' := by
  refine (one55_any w (n := 1) (by omega)).mono ?_
  rintro e w' ⟨⟨Da, ca, Db, cb', rfl, h1, h2, _, _⟩, hb⟩
  have e1 : 1 / Nat.gcd 1 1 = 1 := by decide
  have e2 : L32 1 = 1 := L32_one (by omega) (by omega)
  rw [e1, e2] at h1 h2 ⊢
  exact ⟨⟨Da, ca, Db, cb', rfl, h1, h2⟩, hb⟩
set_option maxHeartbeats 8000000 in
set_option maxRecDepth 100000 in
theorem rtail_bad1 (w : World) {D E : Option Addr} {n0 n1 c0 c1 : Nat} {n k : Int} (h : n < 0 ∨ 0 ≤ n ∧ 64 < n) :
    Calls Try.prog 21 #[.int .i64 n, .int .i64 k, fv D n0 c0 E n1 c1] w fun e w' => Err e 2 ∧ Below w.heap.size w w' := by
  have BS0 := Lib.hid (boxesR w (.slice D n0 c0) (.slice E n1 c1))
  unfold fv
  have hd : decide (n < 0) = true ∨ decide (n < 0) = false ∧ decide (64 < n) = true := by
    rcases h with h | ⟨h, h2⟩
    · exact .inl (decide_eq_true h)
    · exact .inr ⟨decide_eq_false (by omega), decide_eq_true h2⟩
  rcases hd with h1 | ⟨h1, h2⟩
  all_goals
    go_enter Try.func21, Try.ntmps21
    go_upto_region 1 with (fail)
    obtain ⟨wa, hwa⟩ : ∃ wa, wa = ((w.alloc (.cells #[.slice D n0 c0, .slice E n1 c1] TF)).alloc (.cells #[.slice none 0 0, .slice none 0 0] TF)) := ⟨_, rfl⟩
    change Code.wp _ _ _ _ ((w.alloc (.cells #[.slice D n0 c0, .slice E n1 c1] TF)).alloc (.cells #[.slice none 0 0, .slice none 0 0] TF))
    rw [← hwa] at BS0 ⊢
    obtain ⟨fb, hfb⟩ : ∃ b, b = w.heap.size := ⟨_, rfl⟩
    obtain ⟨z, hz⟩ : ∃ b, b = w.heap.size + 1 := ⟨_, rfl⟩
    have hzw : w.heap.size ≤ z := by omega
    have bs0 := BS0.out
    rw [← hz, ← hfb] at bs0
    rw [show (Value.pointer (some ⟨w.heap.size, 0, none⟩)) = .pointer (some ⟨fb, 0, none⟩) by rw [hfb], show (Value.pointer (some ⟨w.heap.size + 1, 0, none⟩)) = .pointer (some ⟨z, 0, none⟩) by rw [hz]]
    have BS := Lib.hid bs0
    clear hwa BS0 bs0 hz hfb
    obtain ⟨_, lf, kf⟩ := BS.out.get (.tail _ (.head _))
    have qf0 : wa.cell? ⟨fb, 0, none⟩ = some (.slice D n0 c0) := kf.cell 0
    have qf1 : wa.cell? ⟨fb, 1, none⟩ = some (.slice E n1 c1) := kf.cell 1
    clear kf
    go_cut [34] (fun s34 wx => s34 = .bool true ∧ Hid (Below wa.heap.size wa wx))
    case first =>
      go_quiet (fail)
      go_wp2_with fail
      go_meet
      case rel => exact ⟨rfl, Lib.hid (by first | exact Below.refl _ _ | exact (Below.refl _ _).drew | exact below_drewN (Below.refl _ _) _)⟩
    case rest =>
      obtain ⟨rfl, HW⟩ := hcut
      replace BS := Lib.hid (BS.out.on HW.out)
      clear HW qf0 qf1
      rename World => wb
      obtain ⟨_, lz, kz⟩ := BS.out.get (.head _)
      have s0 : wb.cell? ⟨z, 0, none⟩ = some (.slice none 0 0) := kz.cell 0
      have s1 : wb.cell? ⟨z, 1, none⟩ = some (.slice none 0 0) := kz.cell 1
      have f0 : wb.frozen? ⟨z, 0, none⟩ = false := kz.frozen 0
      have f1 : wb.frozen? ⟨z, 1, none⟩ = false := kz.frozen 1
      clear kz
      have HB7 := Lib.hid BS.out.below
      go_wp2
      refine bodyPost_ret (v := .tuple #[fv none 0 0 none 0 0, .int .i64 2]) (by unfold fv; simp [results, Try.results21, go_sem, s0, s1]) rfl ?_
      refine ⟨rfl, ?_⟩
      repeat' (first | exact HB7.out | refine bl_alloc ?_ _ | refine bse ?_ (by first | assumption | exact Nat.le_refl _) _ _)
set_option maxHeartbeats 8000000 in
set_option maxRecDepth 100000 in
theorem rtail_bad2 (w : World) {D E : Option Addr} {n0 n1 c0 c1 : Nat} {n : Nat} {k : Int} (hn : n ≤ 64) (kv : ∀ w', Below w.heap.size w w' → Calls Try.prog 44 #[.agg #[.slice D n0 c0, .slice E n1 c1]] w' fun e w'' => e = .returned (.bool false) ∧ Below w'.heap.size w' w'') :
    Calls Try.prog 21 #[.int .i64 (n : Int), .int .i64 k, fv D n0 c0 E n1 c1] w fun e w' => Err e 2 ∧ Below w.heap.size w w' := by
  have BS0 := Lib.hid (boxesR w (.slice D n0 c0) (.slice E n1 c1))
  have HKV := Lib.hid kv
  have h1 : decide ((n : Int) < 0) = false := decide_eq_false (by omega)
  have h2 : decide ((64 : Int) < (n : Int)) = false := decide_eq_false (by omega)
  unfold fv
  clear kv
  go_enter Try.func21, Try.ntmps21
  go_upto_region 1 with (fail)
  obtain ⟨wa, hwa⟩ : ∃ wa, wa = ((w.alloc (.cells #[.slice D n0 c0, .slice E n1 c1] TF)).alloc (.cells #[.slice none 0 0, .slice none 0 0] TF)) := ⟨_, rfl⟩
  change Code.wp _ _ _ _ ((w.alloc (.cells #[.slice D n0 c0, .slice E n1 c1] TF)).alloc (.cells #[.slice none 0 0, .slice none 0 0] TF))
  rw [← hwa] at BS0 ⊢
  obtain ⟨fb, hfb⟩ : ∃ b, b = w.heap.size := ⟨_, rfl⟩
  obtain ⟨z, hz⟩ : ∃ b, b = w.heap.size + 1 := ⟨_, rfl⟩
  have hzw : w.heap.size ≤ z := by omega
  have bs0 := BS0.out
  rw [← hz, ← hfb] at bs0
  rw [show (Value.pointer (some ⟨w.heap.size, 0, none⟩)) = .pointer (some ⟨fb, 0, none⟩) by rw [hfb], show (Value.pointer (some ⟨w.heap.size + 1, 0, none⟩)) = .pointer (some ⟨z, 0, none⟩) by rw [hz]]
  have BS := Lib.hid bs0
  clear hwa BS0 bs0 hz hfb
  have HV : Hid (∀ w', Below wa.heap.size wa w' → Calls Try.prog 44 #[.agg #[.slice D n0 c0, .slice E n1 c1]] w' fun e w'' => e = .returned (.bool false) ∧ Below w'.heap.size w' w'' ∧ Below wa.heap.size wa w'') := Lib.hid fun w' hw => by
    refine (HKV.out w' (Below.on BS.out.below hw)).mono ?_
    rintro e w'' ⟨rfl, hb⟩
    exact ⟨rfl, hb, Below.on hw hb⟩
  have HALL : Hid (∀ w', Below wa.heap.size wa w' → w'.cell? ⟨fb, 0, none⟩ = some (.slice D n0 c0) ∧ w'.cell? ⟨fb, 1, none⟩ = some (.slice E n1 c1)) := Lib.hid fun w' hw => ⟨((BS.out.on hw).get (.tail _ (.head _))).2.2.cell 0, ((BS.out.on hw).get (.tail _ (.head _))).2.2.cell 1⟩
  have A0 : Below wa.heap.size wa wa.drew := (Below.refl _ _).drew
  go_cut [34] (fun s34 wx => s34 = .bool true ∧ Hid (Below wa.heap.size wa wx))
  case first =>
    refine wp_region_held_drew (S := fun w' => w'.cell? ⟨fb, 0, none⟩ = some (.slice D n0 c0) ∧ w'.cell? ⟨fb, 1, none⟩ = some (.slice E n1 c1)) (by kernel_rfl) (HALL.out _ A0) (fun hHeld => ?_)
    change wpAnyH _ _ _ _ _ 17 (Array.replicate 17 false) _ _
    refine wpAnyH_take (i := 0) (oi := ?o1) (v := ?v1) ?hi1 (by kernel_rfl) (by kernel_rfl) (by kernel_rfl) ?hQ1 ?hy1 (by assumption) ?hr1
    case hi1 => (simp only [List.getElem?_toArray, List.getElem?_cons_zero]; exact rfl)
    case hQ1 => exact fun _ _ _ h => h
    case hy1 =>
      refine Or.inl ⟨by rfl, ?_⟩
      intro w' hSw
      (try dsimp only at hSw)
      go_simp
      all_goals with_reducible rfl
    try simp only [Act.put, List.setIfInBounds_toArray, List.set_cons_zero, List.set_cons_succ]
    refine wpAnyH_take (i := 1) (oi := ?o2) (v := ?v2) ?hi2 (by kernel_rfl) (by kernel_rfl) (by kernel_rfl) ?hQ2 ?hy2 (by assumption) ?hr2
    case hi2 => (simp only [List.getElem?_toArray, List.getElem?_cons_succ, List.getElem?_cons_zero]; exact rfl)
    case hQ2 => exact fun _ _ _ h => h
    case hy2 =>
      refine Or.inl ⟨by rfl, ?_⟩
      intro w' hSw
      (try dsimp only at hSw)
      go_simp
      all_goals with_reducible rfl
    try simp only [Act.put, List.setIfInBounds_toArray, List.set_cons_zero, List.set_cons_succ]
    refine wpAnyH_take (i := 2) (oi := ?o3) (v := ?v3) ?hi3 (by kernel_rfl) (by kernel_rfl) (by kernel_rfl) ?hQ3 ?hy3 (by assumption) ?hr3
    case hi3 => (simp only [List.getElem?_toArray, List.getElem?_cons_succ, List.getElem?_cons_zero]; exact rfl)
    case hQ3 => exact fun _ _ _ h => h
    case hy3 =>
      refine Or.inl ⟨by rfl, ?_⟩
      intro w' hSw
      (try dsimp only at hSw)
      go_simp
      all_goals with_reducible rfl
    try simp only [Act.put, List.setIfInBounds_toArray, List.set_cons_zero, List.set_cons_succ]
    refine wpAnyH_take (i := 3) (oi := ?o4) (v := ?v4) ?hi4 (by kernel_rfl) (by kernel_rfl) (by kernel_rfl) ?hQ4 ?hy4 (by assumption) ?hr4
    case hi4 => (simp only [List.getElem?_toArray, List.getElem?_cons_succ, List.getElem?_cons_zero]; exact rfl)
    case hQ4 => exact fun _ _ _ h => h
    case hy4 =>
      refine Or.inl ⟨by rfl, ?_⟩
      intro w' hSw
      (try dsimp only at hSw)
      go_simp
      all_goals with_reducible rfl
    try simp only [Act.put, List.setIfInBounds_toArray, List.set_cons_zero, List.set_cons_succ]
    refine wpAnyH_take (i := 4) (oi := ?o5) (v := ?v5) ?hi5 (by kernel_rfl) (by kernel_rfl) (by kernel_rfl) ?hQ5 ?hy5 (by assumption) ?hr5
    case hi5 => (simp only [List.getElem?_toArray, List.getElem?_cons_succ, List.getElem?_cons_zero]; exact rfl)
    case hQ5 => exact fun _ _ _ h => h
    case hy5 =>
      refine Or.inl ⟨by rfl, ?_⟩
      intro w' hSw
      (try dsimp only at hSw)
      go_simp
      all_goals with_reducible rfl
    try simp only [Act.put, List.setIfInBounds_toArray, List.set_cons_zero, List.set_cons_succ]
    refine wpAnyH_take (i := 5) (oi := ?o6) (v := ?v6) ?hi6 (by kernel_rfl) (by kernel_rfl) (by kernel_rfl) ?hQ6 ?hy6 (by assumption) ?hr6
    case hi6 => (simp only [List.getElem?_toArray, List.getElem?_cons_succ, List.getElem?_cons_zero]; exact rfl)
    case hQ6 => exact fun _ _ _ h => h
    case hy6 =>
      refine Or.inl ⟨by rfl, ?_⟩
      intro w' hSw
      (try dsimp only at hSw)
      go_simp
      all_goals with_reducible rfl
    try simp only [Act.put, List.setIfInBounds_toArray, List.set_cons_zero, List.set_cons_succ]
    refine wpAnyH_take (i := 6) (oi := ?o7) (v := ?v7) ?hi7 (by kernel_rfl) (by kernel_rfl) (by kernel_rfl) ?hQ7 ?hy7 (by assumption) ?hr7
    case hi7 => (simp only [List.getElem?_toArray, List.getElem?_cons_succ, List.getElem?_cons_zero]; exact rfl)
    case hQ7 => exact fun _ _ _ h => h
    case hy7 =>
      refine Or.inl ⟨by rfl, ?_⟩
      intro w' hSw
      (try dsimp only at hSw)
      go_simp
      all_goals with_reducible rfl
    try simp only [Act.put, List.setIfInBounds_toArray, List.set_cons_zero, List.set_cons_succ]
    refine wpAnyH_take (i := 7) (oi := ?o8) (v := ?v8) ?hi8 (by kernel_rfl) (by kernel_rfl) (by kernel_rfl) ?hQ8 ?hy8 (by assumption) ?hr8
    case hi8 => (simp only [List.getElem?_toArray, List.getElem?_cons_succ, List.getElem?_cons_zero]; exact rfl)
    case hQ8 => exact fun _ _ _ h => h
    case hy8 =>
      refine Or.inl ⟨by rfl, ?_⟩
      intro w' hSw
      (try dsimp only at hSw)
      go_simp
      all_goals with_reducible rfl
    try simp only [Act.put, List.setIfInBounds_toArray, List.set_cons_zero, List.set_cons_succ]
    refine wpAnyH_ready (rs := [8]) (by kernel_rfl) (by simp) ?_
    refine AllReadyH.cons (o := ?o9) ?hi9 ?hs9 AllReadyH.nil
    case hi9 => (simp only [List.getElem?_toArray, List.getElem?_cons_succ, List.getElem?_cons_zero]; exact rfl)
    intro K hK
    go_simp
    (go_at_call 44; (with_reducible refine (HV.out _ ?_).mono ?_); (first | assumption); rintro e6 w6 ⟨rfl, b6, t6⟩)
    refine hK.out _ _ (HALL.out _ t6) (fun hHeld => ?_)
    clear hK K
    try simp only [Act.put, List.setIfInBounds_toArray, List.set_cons_zero, List.set_cons_succ]
    refine wpAnyH_take (i := 9) (oi := ?o10) (v := ?v10) ?hi10 (by kernel_rfl) (by kernel_rfl) (by kernel_rfl) ?hQ10 ?hy10 (by assumption) ?hr10
    case hi10 => (simp only [List.getElem?_toArray, List.getElem?_cons_succ, List.getElem?_cons_zero]; exact rfl)
    case hQ10 => exact fun _ _ _ h => h
    case hy10 =>
      refine Or.inl ⟨by rfl, ?_⟩
      intro w' hSw
      (try dsimp only at hSw)
      go_simp
      all_goals with_reducible rfl
    try simp only [Act.put, List.setIfInBounds_toArray, List.set_cons_zero, List.set_cons_succ]
    refine wpAnyH_take (i := 10) (oi := ?o11) (v := ?v11) ?hi11 (by kernel_rfl) (by kernel_rfl) (by kernel_rfl) ?hQ11 ?hy11 (by assumption) ?hr11
    case hi11 => (simp only [List.getElem?_toArray, List.getElem?_cons_succ, List.getElem?_cons_zero]; exact rfl)
    case hQ11 => exact fun _ _ _ h => h
    case hy11 =>
      refine Or.inl ⟨by rfl, ?_⟩
      intro w' hSw
      (try dsimp only at hSw)
      go_simp
      all_goals with_reducible rfl
    try simp only [Act.put, List.setIfInBounds_toArray, List.set_cons_zero, List.set_cons_succ]
    refine wpAnyH_take (i := 11) (oi := ?o12) (v := ?v12) ?hi12 (by kernel_rfl) (by kernel_rfl) (by kernel_rfl) ?hQ12 ?hy12 (by assumption) ?hr12
    case hi12 => (simp only [List.getElem?_toArray, List.getElem?_cons_succ, List.getElem?_cons_zero]; exact rfl)
    case hQ12 => exact fun _ _ _ h => h
    case hy12 =>
      refine Or.inl ⟨by rfl, ?_⟩
      intro w' hSw
      (try dsimp only at hSw)
      go_simp
      all_goals with_reducible rfl
    try simp only [Act.put, List.setIfInBounds_toArray, List.set_cons_zero, List.set_cons_succ]
    refine wpAnyH_take (i := 12) (oi := ?o13) (v := undef) ?hi13 (by kernel_rfl) (by kernel_rfl) (by kernel_rfl) ?hQ13 ?hy13 (by assumption) ?hr13
    case hi13 => (simp only [List.getElem?_toArray, List.getElem?_cons_succ, List.getElem?_cons_zero]; exact rfl)
    case hQ13 => exact fun _ _ _ h => h
    case hy13 => exact Or.inr ⟨by rfl, rfl⟩
    try simp only [Act.put, List.setIfInBounds_toArray, List.set_cons_zero, List.set_cons_succ]
    refine wpAnyH_take (i := 13) (oi := ?o14) (v := undef) ?hi14 (by kernel_rfl) (by kernel_rfl) (by kernel_rfl) ?hQ14 ?hy14 (by assumption) ?hr14
    case hi14 => (simp only [List.getElem?_toArray, List.getElem?_cons_succ, List.getElem?_cons_zero]; exact rfl)
    case hQ14 => exact fun _ _ _ h => h
    case hy14 => exact Or.inr ⟨by rfl, rfl⟩
    try simp only [Act.put, List.setIfInBounds_toArray, List.set_cons_zero, List.set_cons_succ]
    refine wpAnyH_take (i := 14) (oi := ?o15) (v := undef) ?hi15 (by kernel_rfl) (by kernel_rfl) (by kernel_rfl) ?hQ15 ?hy15 (by assumption) ?hr15
    case hi15 => (simp only [List.getElem?_toArray, List.getElem?_cons_succ, List.getElem?_cons_zero]; exact rfl)
    case hQ15 => exact fun _ _ _ h => h
    case hy15 => exact Or.inr ⟨by rfl, rfl⟩
    try simp only [Act.put, List.setIfInBounds_toArray, List.set_cons_zero, List.set_cons_succ]
    refine wpAnyH_take (i := 15) (oi := ?o16) (v := undef) ?hi16 (by kernel_rfl) (by kernel_rfl) (by kernel_rfl) ?hQ16 ?hy16 (by assumption) ?hr16
    case hi16 => (simp only [List.getElem?_toArray, List.getElem?_cons_succ, List.getElem?_cons_zero]; exact rfl)
    case hQ16 => exact fun _ _ _ h => h
    case hy16 => exact Or.inr ⟨by rfl, rfl⟩
    try simp only [Act.put, List.setIfInBounds_toArray, List.set_cons_zero, List.set_cons_succ]
    refine wpAnyH_take (i := 16) (oi := ?o17) (v := ?v17) ?hi17 (by kernel_rfl) (by kernel_rfl) (by kernel_rfl) ?hQ17 ?hy17 (by assumption) ?hr17
    case hi17 => (simp only [List.getElem?_toArray, List.getElem?_cons_succ, List.getElem?_cons_zero]; exact rfl)
    case hQ17 => exact fun _ _ _ h => h
    case hy17 =>
      refine Or.inl ⟨by rfl, ?_⟩
      intro w' hSw
      (try dsimp only at hSw)
      go_simp
      all_goals with_reducible rfl
    try simp only [Act.put, List.setIfInBounds_toArray, List.set_cons_zero, List.set_cons_succ]
    refine wpAnyH_done (by kernel_rfl) ?_ _
    go_wp2_with fail
    go_meet
    case rel => exact ⟨rfl, Lib.hid t6⟩
  case rest =>
    obtain ⟨rfl, HW⟩ := hcut
    replace BS := Lib.hid (BS.out.on HW.out)
    clear HW HV HALL A0
    rename World => wb
    obtain ⟨_, lz, kz⟩ := BS.out.get (.head _)
    have s0 : wb.cell? ⟨z, 0, none⟩ = some (.slice none 0 0) := kz.cell 0
    have s1 : wb.cell? ⟨z, 1, none⟩ = some (.slice none 0 0) := kz.cell 1
    have f0 : wb.frozen? ⟨z, 0, none⟩ = false := kz.frozen 0
    have f1 : wb.frozen? ⟨z, 1, none⟩ = false := kz.frozen 1
    clear kz
    have HB7 := Lib.hid BS.out.below
    go_wp2
    refine bodyPost_ret (v := .tuple #[fv none 0 0 none 0 0, .int .i64 2]) (by unfold fv; simp [results, Try.results21, go_sem, s0, s1]) rfl ?_
    refine ⟨rfl, ?_⟩
    repeat' (first | exact HB7.out | refine bl_alloc ?_ _ | refine bse ?_ (by first | assumption | exact Nat.le_refl _) _ _)
set_option maxHeartbeats 8000000 in
set_option maxRecDepth 100000 in
theorem rtail_bad3 (w : World) {D E : Option Addr} {n0 n1 c0 c1 : Nat} {n : Nat} {k cc : Int} (hn : n ≤ 64) (kv : ∀ w', Below w.heap.size w w' → Calls Try.prog 44 #[.agg #[.slice D n0 c0, .slice E n1 c1]] w' fun e w'' => e = .returned (.bool true) ∧ Below w'.heap.size w' w'')
    (kc : ∀ w' Da ca Db cb', Cells w' Da 1 (Lm (d32 1)) → Cells w' Db 1 (Lm (d32 1)) → Below w.heap.size w w' → Calls Try.prog 58 #[.agg #[.slice D n0 c0, .slice E n1 c1], .agg #[.slice Da 1 ca, .slice Db 1 cb']] w' fun e w'' => e = .returned (.int .i64 cc) ∧ Below w'.heap.size w' w'') (hcc : 0 < cc) :
    Calls Try.prog 21 #[.int .i64 (n : Int), .int .i64 k, fv D n0 c0 E n1 c1] w fun e w' => Err e 2 ∧ Below w.heap.size w w' := by
  have BS0 := Lib.hid (boxesR w (.slice D n0 c0) (.slice E n1 c1))
  have HKV := Lib.hid kv
  have HKC := Lib.hid kc
  have h1 : decide ((n : Int) < 0) = false := decide_eq_false (by omega)
  have h2 : decide ((64 : Int) < (n : Int)) = false := decide_eq_false (by omega)
  have h3 : decide ((0 : Int) < cc) = true := decide_eq_true hcc
  unfold fv
  clear kv kc
  go_enter Try.func21, Try.ntmps21
  go_upto_region 1 with (fail)
  obtain ⟨wa, hwa⟩ : ∃ wa, wa = ((w.alloc (.cells #[.slice D n0 c0, .slice E n1 c1] TF)).alloc (.cells #[.slice none 0 0, .slice none 0 0] TF)) := ⟨_, rfl⟩
  change Code.wp _ _ _ _ ((w.alloc (.cells #[.slice D n0 c0, .slice E n1 c1] TF)).alloc (.cells #[.slice none 0 0, .slice none 0 0] TF))
  rw [← hwa] at BS0 ⊢
  obtain ⟨fb, hfb⟩ : ∃ b, b = w.heap.size := ⟨_, rfl⟩
  obtain ⟨z, hz⟩ : ∃ b, b = w.heap.size + 1 := ⟨_, rfl⟩
  have hzw : w.heap.size ≤ z := by omega
  have bs0 := BS0.out
  rw [← hz, ← hfb] at bs0
  rw [show (Value.pointer (some ⟨w.heap.size, 0, none⟩)) = .pointer (some ⟨fb, 0, none⟩) by rw [hfb], show (Value.pointer (some ⟨w.heap.size + 1, 0, none⟩)) = .pointer (some ⟨z, 0, none⟩) by rw [hz]]
  have BS := Lib.hid bs0
  clear hwa BS0 bs0 hz hfb
  have HV : Hid (∀ w', Below wa.heap.size wa w' → Calls Try.prog 44 #[.agg #[.slice D n0 c0, .slice E n1 c1]] w' fun e w'' => e = .returned (.bool true) ∧ Below w'.heap.size w' w'' ∧ Below wa.heap.size wa w'') := Lib.hid fun w' hw => by
    refine (HKV.out w' (Below.on BS.out.below hw)).mono ?_
    rintro e w'' ⟨rfl, hb⟩
    exact ⟨rfl, hb, Below.on hw hb⟩
  have HO : Hid (∀ w', Below wa.heap.size wa w' → Calls Try.prog 40 #[.int .i64 1] w' fun e w'' => ∃ Da ca Db cb', e = .returned (.agg #[.slice Da 1 ca, .slice Db 1 cb']) ∧ Cells w'' Da 1 (Lm (d32 1)) ∧ Cells w'' Db 1 (Lm (d32 1)) ∧ Below w'.heap.size w' w'' ∧ Below wa.heap.size wa w'') := Lib.hid fun w' hw => by
    refine (one55_one w').mono ?_
    rintro e w'' ⟨⟨Da, ca, Db, cb', rfl, h1, h2⟩, hb⟩
    exact ⟨Da, ca, Db, cb', rfl, h1, h2, hb, Below.on hw hb⟩
  have HC : Hid (∀ w' Da ca Db cb', Cells w' Da 1 (Lm (d32 1)) → Cells w' Db 1 (Lm (d32 1)) → Below wa.heap.size wa w' → Calls Try.prog 58 #[.agg #[.slice D n0 c0, .slice E n1 c1], .agg #[.slice Da 1 ca, .slice Db 1 cb']] w' fun e w'' => e = .returned (.int .i64 cc) ∧ Below w'.heap.size w' w'' ∧ Below wa.heap.size wa w'') := Lib.hid fun w' Da ca Db cb' h1 h2 hw => by
    refine (HKC.out w' Da ca Db cb' h1 h2 (Below.on BS.out.below hw)).mono ?_
    rintro e w'' ⟨rfl, hb⟩
    exact ⟨rfl, hb, Below.on hw hb⟩
  have HALL : Hid (∀ w', Below wa.heap.size wa w' → w'.cell? ⟨fb, 0, none⟩ = some (.slice D n0 c0) ∧ w'.cell? ⟨fb, 1, none⟩ = some (.slice E n1 c1)) := Lib.hid fun w' hw => ⟨((BS.out.on hw).get (.tail _ (.head _))).2.2.cell 0, ((BS.out.on hw).get (.tail _ (.head _))).2.2.cell 1⟩
  have A0 : Below wa.heap.size wa wa.drew := (Below.refl _ _).drew
  go_cut [34] (fun s34 wx => s34 = .bool true ∧ Hid (Below wa.heap.size wa wx))
  case first =>
    go_region_held3 (fun w' => w'.cell? ⟨fb, 0, none⟩ = some (.slice D n0 c0) ∧ w'.cell? ⟨fb, 1, none⟩ = some (.slice E n1 c1))
      (exact HALL.out _ (by assumption))
      (first
        | (go_at_call 44; (with_reducible refine (HV.out _ ?_).mono ?_); (first | assumption); rintro e6 w6 ⟨rfl, b6, t6⟩)
        | (go_at_call 40; (with_reducible refine (HO.out _ ?_).mono ?_); (first | assumption); rintro e7 w7 ⟨Da, ca, Db, cb', rfl, k7, l7, b7, t7⟩)
        | (go_at_call 58; (with_reducible refine (HC.out _ _ _ _ _ ?_ ?_ ?_).mono ?_); (first | assumption); (first | assumption); (first | assumption); rintro e8 w8 ⟨rfl, b8, t8⟩)
        | fail)
    all_goals
      go_wp2_with fail
      go_meet
      case rel => exact ⟨rfl, Lib.hid t8⟩
  obtain ⟨rfl, HW⟩ := hcut
  replace BS := Lib.hid (BS.out.on HW.out)
  clear HW HV HO HC HALL A0 HKV HKC
  rename World => wb
  obtain ⟨_, lz, kz⟩ := BS.out.get (.head _)
  have s0 : wb.cell? ⟨z, 0, none⟩ = some (.slice none 0 0) := kz.cell 0
  have s1 : wb.cell? ⟨z, 1, none⟩ = some (.slice none 0 0) := kz.cell 1
  have f0 : wb.frozen? ⟨z, 0, none⟩ = false := kz.frozen 0
  have f1 : wb.frozen? ⟨z, 1, none⟩ = false := kz.frozen 1
  clear kz
  have HB7 := Lib.hid BS.out.below
  go_wp2
  refine bodyPost_ret (v := .tuple #[fv none 0 0 none 0 0, .int .i64 2]) (by unfold fv; simp [results, Try.results21, go_sem, s0, s1]) rfl ?_
  refine ⟨rfl, ?_⟩
  repeat' (first | exact HB7.out | refine bl_alloc ?_ _ | refine bse ?_ (by first | assumption | exact Nat.le_refl _) _ _)
set_option maxHeartbeats 8000000 in
set_option maxRecDepth 100000 in
theorem rtail_one (w : World) {D E : Option Addr} {n0 n1 c0 c1 : Nat} {n : Nat} {k cc : Int} (hn : n ≤ 64) (kv : ∀ w', Below w.heap.size w w' → Calls Try.prog 44 #[.agg #[.slice D n0 c0, .slice E n1 c1]] w' fun e w'' => e = .returned (.bool true) ∧ Below w'.heap.size w' w'')
    (kc : ∀ w' Da ca Db cb', Cells w' Da 1 (Lm (d32 1)) → Cells w' Db 1 (Lm (d32 1)) → Below w.heap.size w w' → Calls Try.prog 58 #[.agg #[.slice D n0 c0, .slice E n1 c1], .agg #[.slice Da 1 ca, .slice Db 1 cb']] w' fun e w'' => e = .returned (.int .i64 cc) ∧ Below w'.heap.size w' w'') (hcc : cc ≤ 0) (hk : k ≤ 0) {qa qb : Nat} (hqa : qa = 1 / Nat.gcd 1 1) (hqb : qb = 1 / Nat.gcd 1 1) :
    Calls Try.prog 21 #[.int .i64 (n : Int), .int .i64 k, fv D n0 c0 E n1 c1] w fun e w' => Gw w' e qa qb 0 ∧ Below w.heap.size w w' := by
  have BS0 := Lib.hid (boxesR w (.slice D n0 c0) (.slice E n1 c1))
  have HKV := Lib.hid kv
  have HKC := Lib.hid kc
  have h1 : decide ((n : Int) < 0) = false := decide_eq_false (by omega)
  have h2 : decide ((64 : Int) < (n : Int)) = false := decide_eq_false (by omega)
  have h3 : decide ((0 : Int) < cc) = false := decide_eq_false (by omega)
  have HOF : Hid (∀ w', Calls Try.prog 40 #[.int .i64 1] w' fun e w'' => (∃ (Da : Option Addr) (ca : Nat) (Db : Option Addr) (cb' : Nat), e = .returned (fv Da (L32 qa) ca Db (L32 qb) cb') ∧ Cells w'' Da (L32 qa) (Lm (d32 qa)) ∧ Cells w'' Db (L32 qb) (Lm (d32 qb)) ∧ Fresh w'.heap.size Da ∧ Fresh w'.heap.size Db) ∧ Below w'.heap.size w' w'') := Lib.hid fun w' => by
    rw [hqa, hqb]
    exact one55_any w' (n := 1) (by omega)
  have HQ64 : Hid (L32 qa ≤ 64 ∧ L32 qb ≤ 64) := Lib.hid ⟨by rw [hqa]; exact sm64 (by decide), by rw [hqb]; exact sm64 (by decide)⟩
  unfold fv
  clear kv kc hqa hqb
  go_enter Try.func21, Try.ntmps21
  go_upto_region 1 with (fail)
  obtain ⟨wa, hwa⟩ : ∃ wa, wa = ((w.alloc (.cells #[.slice D n0 c0, .slice E n1 c1] TF)).alloc (.cells #[.slice none 0 0, .slice none 0 0] TF)) := ⟨_, rfl⟩
  change Code.wp _ _ _ _ ((w.alloc (.cells #[.slice D n0 c0, .slice E n1 c1] TF)).alloc (.cells #[.slice none 0 0, .slice none 0 0] TF))
  rw [← hwa] at BS0 ⊢
  obtain ⟨fb, hfb⟩ : ∃ b, b = w.heap.size := ⟨_, rfl⟩
  obtain ⟨z, hz⟩ : ∃ b, b = w.heap.size + 1 := ⟨_, rfl⟩
  have hzw : w.heap.size ≤ z := by omega
  have bs0 := BS0.out
  rw [← hz, ← hfb] at bs0
  rw [show (Value.pointer (some ⟨w.heap.size, 0, none⟩)) = .pointer (some ⟨fb, 0, none⟩) by rw [hfb], show (Value.pointer (some ⟨w.heap.size + 1, 0, none⟩)) = .pointer (some ⟨z, 0, none⟩) by rw [hz]]
  have BS := Lib.hid bs0
  clear hwa BS0 bs0 hz hfb
  have HV : Hid (∀ w', Below wa.heap.size wa w' → Calls Try.prog 44 #[.agg #[.slice D n0 c0, .slice E n1 c1]] w' fun e w'' => e = .returned (.bool true) ∧ Below w'.heap.size w' w'' ∧ Below wa.heap.size wa w'') := Lib.hid fun w' hw => by
    refine (HKV.out w' (Below.on BS.out.below hw)).mono ?_
    rintro e w'' ⟨rfl, hb⟩
    exact ⟨rfl, hb, Below.on hw hb⟩
  have HO : Hid (∀ w', Below wa.heap.size wa w' → Calls Try.prog 40 #[.int .i64 1] w' fun e w'' => ∃ Da ca Db cb', e = .returned (.agg #[.slice Da 1 ca, .slice Db 1 cb']) ∧ Cells w'' Da 1 (Lm (d32 1)) ∧ Cells w'' Db 1 (Lm (d32 1)) ∧ Below w'.heap.size w' w'' ∧ Below wa.heap.size wa w'') := Lib.hid fun w' hw => by
    refine (one55_one w').mono ?_
    rintro e w'' ⟨⟨Da, ca, Db, cb', rfl, h1, h2⟩, hb⟩
    exact ⟨Da, ca, Db, cb', rfl, h1, h2, hb, Below.on hw hb⟩
  have HC : Hid (∀ w' Da ca Db cb', Cells w' Da 1 (Lm (d32 1)) → Cells w' Db 1 (Lm (d32 1)) → Below wa.heap.size wa w' → Calls Try.prog 58 #[.agg #[.slice D n0 c0, .slice E n1 c1], .agg #[.slice Da 1 ca, .slice Db 1 cb']] w' fun e w'' => e = .returned (.int .i64 cc) ∧ Below w'.heap.size w' w'' ∧ Below wa.heap.size wa w'') := Lib.hid fun w' Da ca Db cb' h1 h2 hw => by
    refine (HKC.out w' Da ca Db cb' h1 h2 (Below.on BS.out.below hw)).mono ?_
    rintro e w'' ⟨rfl, hb⟩
    exact ⟨rfl, hb, Below.on hw hb⟩
  have HALL : Hid (∀ w', Below wa.heap.size wa w' → w'.cell? ⟨fb, 0, none⟩ = some (.slice D n0 c0) ∧ w'.cell? ⟨fb, 1, none⟩ = some (.slice E n1 c1)) := Lib.hid fun w' hw => ⟨((BS.out.on hw).get (.tail _ (.head _))).2.2.cell 0, ((BS.out.on hw).get (.tail _ (.head _))).2.2.cell 1⟩
  have A0 : Below wa.heap.size wa wa.drew := (Below.refl _ _).drew
  go_cut [34] (fun s34 wx => s34 = .bool false ∧ Hid (Below wa.heap.size wa wx))
  case first =>
    go_region_held3 (fun w' => w'.cell? ⟨fb, 0, none⟩ = some (.slice D n0 c0) ∧ w'.cell? ⟨fb, 1, none⟩ = some (.slice E n1 c1))
      (exact HALL.out _ (by assumption))
      (first
        | (go_at_call 44; (with_reducible refine (HV.out _ ?_).mono ?_); (first | assumption); rintro e6 w6 ⟨rfl, b6, t6⟩)
        | (go_at_call 40; (with_reducible refine (HO.out _ ?_).mono ?_); (first | assumption); rintro e7 w7 ⟨Da, ca, Db, cb', rfl, k7, l7, b7, t7⟩)
        | (go_at_call 58; (with_reducible refine (HC.out _ _ _ _ _ ?_ ?_ ?_).mono ?_); (first | assumption); (first | assumption); (first | assumption); rintro e8 w8 ⟨rfl, b8, t8⟩)
        | fail)
    all_goals
      go_wp2_with fail
      go_meet
      case rel => exact ⟨rfl, Lib.hid t8⟩
  obtain ⟨rfl, HW⟩ := hcut
  replace BS := Lib.hid (BS.out.on HW.out)
  clear HW HV HO HC HALL A0 HKV HKC
  rename World => wb
  go_wp2_with fail
  refine (HOF.out _).mono ?_
  rintro e w5 ⟨⟨Da', ca', Db', cb', rfl, hca, hcb, hfa, hfb⟩, hb5⟩
  have HZ6 := Lib.hid (BS.out.get (.head _)).2.1
  replace BS := Lib.hid (BS.out.on hb5)
  clear hb5
  obtain ⟨_, lz, kz⟩ := BS.out.get (.head _)
  have s0 : w5.cell? ⟨z, 0, none⟩ = some (.slice none 0 0) := kz.cell 0
  have s1 : w5.cell? ⟨z, 1, none⟩ = some (.slice none 0 0) := kz.cell 1
  have f0 : w5.frozen? ⟨z, 0, none⟩ = false := kz.frozen 0
  have f1 : w5.frozen? ⟨z, 1, none⟩ = false := kz.frozen 1
  clear kz
  have HB7 := Lib.hid BS.out.below
  obtain ⟨l1, hl1⟩ : ∃ l, l = L32 qa := ⟨_, rfl⟩
  obtain ⟨l2, hl2⟩ : ∃ l, l = L32 qb := ⟨_, rfl⟩
  rw [← hl1] at hca ⊢
  rw [← hl2] at hcb ⊢
  have HL1 := Lib.hid hl1
  have HL2 := Lib.hid hl2
  have HCA := Lib.hid hca
  have HCB := Lib.hid hcb
  have HFA := Lib.hid hfa
  have HFB := Lib.hid hfb
  clear hl1 hl2 hca hcb hfa hfb
  unfold fv
  go_wp2
  refine bodyPost_ret (v := .tuple #[fv Da' l1 ca' Db' l2 cb', .int .i64 0]) (by unfold fv; simp [results, Try.results21, go_sem, s0, s1]) rfl ?_
  refine ⟨⟨Da', l1, ca', Db', l2, cb', rfl, by have := HQ64.out.1; rw [HL1.out]; omega, by have := HQ64.out.2; rw [HL2.out]; omega, HL1.out, HL2.out, ?_, ?_⟩, ?_⟩
  · exact (HCA.out.set_ HFA.out HZ6.out _ _).set_ HFA.out HZ6.out _ _
  · exact (HCB.out.set_ HFB.out HZ6.out _ _).set_ HFB.out HZ6.out _ _
  · exact bse (bse HB7.out hzw _ _) hzw _ _
set_option maxHeartbeats 8000000 in
set_option maxRecDepth 100000 in
theorem rtail_none (w : World) {D E : Option Addr} {n0 n1 c0 c1 : Nat} {n : Nat} {k cc : Int} (hn : n ≤ 64) (kv : ∀ w', Below w.heap.size w w' → Calls Try.prog 44 #[.agg #[.slice D n0 c0, .slice E n1 c1]] w' fun e w'' => e = .returned (.bool true) ∧ Below w'.heap.size w' w'')
    (kc : ∀ w' Da ca Db cb', Cells w' Da 1 (Lm (d32 1)) → Cells w' Db 1 (Lm (d32 1)) → Below w.heap.size w w' → Calls Try.prog 58 #[.agg #[.slice D n0 c0, .slice E n1 c1], .agg #[.slice Da 1 ca, .slice Db 1 cb']] w' fun e w'' => e = .returned (.int .i64 cc) ∧ Below w'.heap.size w' w'') (hcc : cc ≤ 0) (hk : 0 < k) (hk2 : (n : Int) < k) {qa qb : Nat} (hqa : qa = 0 / Nat.gcd 0 1) (hqb : qb = 1 / Nat.gcd 0 1) :
    Calls Try.prog 21 #[.int .i64 (n : Int), .int .i64 k, fv D n0 c0 E n1 c1] w fun e w' => Gw w' e qa qb 0 ∧ Below w.heap.size w w' := by
  have BS0 := Lib.hid (boxesR w (.slice D n0 c0) (.slice E n1 c1))
  have HKV := Lib.hid kv
  have HKC := Lib.hid kc
  have h1 : decide ((n : Int) < 0) = false := decide_eq_false (by omega)
  have h2 : decide ((64 : Int) < (n : Int)) = false := decide_eq_false (by omega)
  have h3 : decide ((0 : Int) < cc) = false := decide_eq_false (by omega)
  have HOF : Hid (∀ w', Calls Try.prog 40 #[.int .i64 0] w' fun e w'' => (∃ (Da : Option Addr) (ca : Nat) (Db : Option Addr) (cb' : Nat), e = .returned (fv Da (L32 qa) ca Db (L32 qb) cb') ∧ Cells w'' Da (L32 qa) (Lm (d32 qa)) ∧ Cells w'' Db (L32 qb) (Lm (d32 qb)) ∧ Fresh w'.heap.size Da ∧ Fresh w'.heap.size Db) ∧ Below w'.heap.size w' w'') := Lib.hid fun w' => by
    rw [hqa, hqb]
    exact one55_any w' (n := 0) (by omega)
  have HQ64 : Hid (L32 qa ≤ 64 ∧ L32 qb ≤ 64) := Lib.hid ⟨by rw [hqa]; exact sm64 (by decide), by rw [hqb]; exact sm64 (by decide)⟩
  unfold fv
  clear kv kc hqa hqb
  go_enter Try.func21, Try.ntmps21
  go_upto_region 1 with (fail)
  obtain ⟨wa, hwa⟩ : ∃ wa, wa = ((w.alloc (.cells #[.slice D n0 c0, .slice E n1 c1] TF)).alloc (.cells #[.slice none 0 0, .slice none 0 0] TF)) := ⟨_, rfl⟩
  change Code.wp _ _ _ _ ((w.alloc (.cells #[.slice D n0 c0, .slice E n1 c1] TF)).alloc (.cells #[.slice none 0 0, .slice none 0 0] TF))
  rw [← hwa] at BS0 ⊢
  obtain ⟨fb, hfb⟩ : ∃ b, b = w.heap.size := ⟨_, rfl⟩
  obtain ⟨z, hz⟩ : ∃ b, b = w.heap.size + 1 := ⟨_, rfl⟩
  have hzw : w.heap.size ≤ z := by omega
  have bs0 := BS0.out
  rw [← hz, ← hfb] at bs0
  rw [show (Value.pointer (some ⟨w.heap.size, 0, none⟩)) = .pointer (some ⟨fb, 0, none⟩) by rw [hfb], show (Value.pointer (some ⟨w.heap.size + 1, 0, none⟩)) = .pointer (some ⟨z, 0, none⟩) by rw [hz]]
  have BS := Lib.hid bs0
  clear hwa BS0 bs0 hz hfb
  have HV : Hid (∀ w', Below wa.heap.size wa w' → Calls Try.prog 44 #[.agg #[.slice D n0 c0, .slice E n1 c1]] w' fun e w'' => e = .returned (.bool true) ∧ Below w'.heap.size w' w'' ∧ Below wa.heap.size wa w'') := Lib.hid fun w' hw => by
    refine (HKV.out w' (Below.on BS.out.below hw)).mono ?_
    rintro e w'' ⟨rfl, hb⟩
    exact ⟨rfl, hb, Below.on hw hb⟩
  have HO : Hid (∀ w', Below wa.heap.size wa w' → Calls Try.prog 40 #[.int .i64 1] w' fun e w'' => ∃ Da ca Db cb', e = .returned (.agg #[.slice Da 1 ca, .slice Db 1 cb']) ∧ Cells w'' Da 1 (Lm (d32 1)) ∧ Cells w'' Db 1 (Lm (d32 1)) ∧ Below w'.heap.size w' w'' ∧ Below wa.heap.size wa w'') := Lib.hid fun w' hw => by
    refine (one55_one w').mono ?_
    rintro e w'' ⟨⟨Da, ca, Db, cb', rfl, h1, h2⟩, hb⟩
    exact ⟨Da, ca, Db, cb', rfl, h1, h2, hb, Below.on hw hb⟩
  have HC : Hid (∀ w' Da ca Db cb', Cells w' Da 1 (Lm (d32 1)) → Cells w' Db 1 (Lm (d32 1)) → Below wa.heap.size wa w' → Calls Try.prog 58 #[.agg #[.slice D n0 c0, .slice E n1 c1], .agg #[.slice Da 1 ca, .slice Db 1 cb']] w' fun e w'' => e = .returned (.int .i64 cc) ∧ Below w'.heap.size w' w'' ∧ Below wa.heap.size wa w'') := Lib.hid fun w' Da ca Db cb' h1 h2 hw => by
    refine (HKC.out w' Da ca Db cb' h1 h2 (Below.on BS.out.below hw)).mono ?_
    rintro e w'' ⟨rfl, hb⟩
    exact ⟨rfl, hb, Below.on hw hb⟩
  have HALL : Hid (∀ w', Below wa.heap.size wa w' → w'.cell? ⟨fb, 0, none⟩ = some (.slice D n0 c0) ∧ w'.cell? ⟨fb, 1, none⟩ = some (.slice E n1 c1)) := Lib.hid fun w' hw => ⟨((BS.out.on hw).get (.tail _ (.head _))).2.2.cell 0, ((BS.out.on hw).get (.tail _ (.head _))).2.2.cell 1⟩
  have A0 : Below wa.heap.size wa wa.drew := (Below.refl _ _).drew
  go_cut [34] (fun s34 wx => s34 = .bool false ∧ Hid (Below wa.heap.size wa wx))
  case first =>
    go_region_held3 (fun w' => w'.cell? ⟨fb, 0, none⟩ = some (.slice D n0 c0) ∧ w'.cell? ⟨fb, 1, none⟩ = some (.slice E n1 c1))
      (exact HALL.out _ (by assumption))
      (first
        | (go_at_call 44; (with_reducible refine (HV.out _ ?_).mono ?_); (first | assumption); rintro e6 w6 ⟨rfl, b6, t6⟩)
        | (go_at_call 40; (with_reducible refine (HO.out _ ?_).mono ?_); (first | assumption); rintro e7 w7 ⟨Da, ca, Db, cb', rfl, k7, l7, b7, t7⟩)
        | (go_at_call 58; (with_reducible refine (HC.out _ _ _ _ _ ?_ ?_ ?_).mono ?_); (first | assumption); (first | assumption); (first | assumption); rintro e8 w8 ⟨rfl, b8, t8⟩)
        | fail)
    all_goals
      go_wp2_with fail
      go_meet
      case rel => exact ⟨rfl, Lib.hid t8⟩
  obtain ⟨rfl, HW⟩ := hcut
  replace BS := Lib.hid (BS.out.on HW.out)
  clear HW HV HO HC HALL A0 HKV HKC
  rename World => wb
  go_wp2_with fail
  refine (HOF.out _).mono ?_
  rintro e w5 ⟨⟨Da', ca', Db', cb', rfl, hca, hcb, hfa, hfb⟩, hb5⟩
  have HZ6 := Lib.hid (BS.out.get (.head _)).2.1
  replace BS := Lib.hid (BS.out.on hb5)
  clear hb5
  obtain ⟨_, lz, kz⟩ := BS.out.get (.head _)
  have s0 : w5.cell? ⟨z, 0, none⟩ = some (.slice none 0 0) := kz.cell 0
  have s1 : w5.cell? ⟨z, 1, none⟩ = some (.slice none 0 0) := kz.cell 1
  have f0 : w5.frozen? ⟨z, 0, none⟩ = false := kz.frozen 0
  have f1 : w5.frozen? ⟨z, 1, none⟩ = false := kz.frozen 1
  clear kz
  have HB7 := Lib.hid BS.out.below
  obtain ⟨l1, hl1⟩ : ∃ l, l = L32 qa := ⟨_, rfl⟩
  obtain ⟨l2, hl2⟩ : ∃ l, l = L32 qb := ⟨_, rfl⟩
  rw [← hl1] at hca ⊢
  rw [← hl2] at hcb ⊢
  have HL1 := Lib.hid hl1
  have HL2 := Lib.hid hl2
  have HCA := Lib.hid hca
  have HCB := Lib.hid hcb
  have HFA := Lib.hid hfa
  have HFB := Lib.hid hfb
  clear hl1 hl2 hca hcb hfa hfb
  unfold fv
  go_wp2
  refine bodyPost_ret (v := .tuple #[fv Da' l1 ca' Db' l2 cb', .int .i64 0]) (by unfold fv; simp [results, Try.results21, go_sem, s0, s1]) rfl ?_
  refine ⟨⟨Da', l1, ca', Db', l2, cb', rfl, by have := HQ64.out.1; rw [HL1.out]; omega, by have := HQ64.out.2; rw [HL2.out]; omega, HL1.out, HL2.out, ?_, ?_⟩, ?_⟩
  · exact (HCA.out.set_ HFA.out HZ6.out _ _).set_ HFA.out HZ6.out _ _
  · exact (HCB.out.set_ HFB.out HZ6.out _ _).set_ HFB.out HZ6.out _ _
  · exact bse (bse HB7.out hzw _ _) hzw _ _
set_option maxHeartbeats 8000000 in
set_option maxRecDepth 100000 in
theorem rtail_over (w : World) {D E : Option Addr} {n0 n1 c0 c1 : Nat} {n : Nat} {k cc : Int} (hn : n ≤ 64) (kv : ∀ w', Below w.heap.size w w' → Calls Try.prog 44 #[.agg #[.slice D n0 c0, .slice E n1 c1]] w' fun e w'' => e = .returned (.bool true) ∧ Below w'.heap.size w' w'')
    (kc : ∀ w' Da ca Db cb', Cells w' Da 1 (Lm (d32 1)) → Cells w' Db 1 (Lm (d32 1)) → Below w.heap.size w w' → Calls Try.prog 58 #[.agg #[.slice D n0 c0, .slice E n1 c1], .agg #[.slice Da 1 ca, .slice Db 1 cb']] w' fun e w'' => e = .returned (.int .i64 cc) ∧ Below w'.heap.size w' w'') (hcc : cc ≤ 0) (hk : 0 < k) (hk2 : k ≤ (n : Int)) {d : Nat} (hn1 : n1 ≤ 64) (hd1 : n1 = L32 d) (hy : Cells w E n1 (Lm (d32 d))) (h64 : 64 < L32 (d ^ n)) :
    Calls Try.prog 21 #[.int .i64 (n : Int), .int .i64 k, fv D n0 c0 E n1 c1] w fun e w' => Err e 9 ∧ Below w.heap.size w w' := by
  have BS0 := Lib.hid (boxesR w (.slice D n0 c0) (.slice E n1 c1))
  have HKV := Lib.hid kv
  have HKC := Lib.hid kc
  have h1 : decide ((n : Int) < 0) = false := decide_eq_false (by omega)
  have h2 : decide ((64 : Int) < (n : Int)) = false := decide_eq_false (by omega)
  have h3 : decide ((0 : Int) < cc) = false := decide_eq_false (by omega)
  have H1 := Lib.hid hd1
  have HY := Lib.hid hy
  have H64 := Lib.hid h64
  unfold fv
  clear kv kc hd1 hy h64
  go_enter Try.func21, Try.ntmps21
  go_upto_region 1 with (fail)
  obtain ⟨wa, hwa⟩ : ∃ wa, wa = ((w.alloc (.cells #[.slice D n0 c0, .slice E n1 c1] TF)).alloc (.cells #[.slice none 0 0, .slice none 0 0] TF)) := ⟨_, rfl⟩
  change Code.wp _ _ _ _ ((w.alloc (.cells #[.slice D n0 c0, .slice E n1 c1] TF)).alloc (.cells #[.slice none 0 0, .slice none 0 0] TF))
  rw [← hwa] at BS0 ⊢
  obtain ⟨fb, hfb⟩ : ∃ b, b = w.heap.size := ⟨_, rfl⟩
  obtain ⟨z, hz⟩ : ∃ b, b = w.heap.size + 1 := ⟨_, rfl⟩
  have hzw : w.heap.size ≤ z := by omega
  have bs0 := BS0.out
  rw [← hz, ← hfb] at bs0
  rw [show (Value.pointer (some ⟨w.heap.size, 0, none⟩)) = .pointer (some ⟨fb, 0, none⟩) by rw [hfb], show (Value.pointer (some ⟨w.heap.size + 1, 0, none⟩)) = .pointer (some ⟨z, 0, none⟩) by rw [hz]]
  have BS := Lib.hid bs0
  clear hwa BS0 bs0 hz hfb
  have HV : Hid (∀ w', Below wa.heap.size wa w' → Calls Try.prog 44 #[.agg #[.slice D n0 c0, .slice E n1 c1]] w' fun e w'' => e = .returned (.bool true) ∧ Below w'.heap.size w' w'' ∧ Below wa.heap.size wa w'') := Lib.hid fun w' hw => by
    refine (HKV.out w' (Below.on BS.out.below hw)).mono ?_
    rintro e w'' ⟨rfl, hb⟩
    exact ⟨rfl, hb, Below.on hw hb⟩
  have HO : Hid (∀ w', Below wa.heap.size wa w' → Calls Try.prog 40 #[.int .i64 1] w' fun e w'' => ∃ Da ca Db cb', e = .returned (.agg #[.slice Da 1 ca, .slice Db 1 cb']) ∧ Cells w'' Da 1 (Lm (d32 1)) ∧ Cells w'' Db 1 (Lm (d32 1)) ∧ Below w'.heap.size w' w'' ∧ Below wa.heap.size wa w'') := Lib.hid fun w' hw => by
    refine (one55_one w').mono ?_
    rintro e w'' ⟨⟨Da, ca, Db, cb', rfl, h1, h2⟩, hb⟩
    exact ⟨Da, ca, Db, cb', rfl, h1, h2, hb, Below.on hw hb⟩
  have HC : Hid (∀ w' Da ca Db cb', Cells w' Da 1 (Lm (d32 1)) → Cells w' Db 1 (Lm (d32 1)) → Below wa.heap.size wa w' → Calls Try.prog 58 #[.agg #[.slice D n0 c0, .slice E n1 c1], .agg #[.slice Da 1 ca, .slice Db 1 cb']] w' fun e w'' => e = .returned (.int .i64 cc) ∧ Below w'.heap.size w' w'' ∧ Below wa.heap.size wa w'') := Lib.hid fun w' Da ca Db cb' h1 h2 hw => by
    refine (HKC.out w' Da ca Db cb' h1 h2 (Below.on BS.out.below hw)).mono ?_
    rintro e w'' ⟨rfl, hb⟩
    exact ⟨rfl, hb, Below.on hw hb⟩
  have HALL : Hid (∀ w', Below wa.heap.size wa w' → w'.cell? ⟨fb, 0, none⟩ = some (.slice D n0 c0) ∧ w'.cell? ⟨fb, 1, none⟩ = some (.slice E n1 c1)) := Lib.hid fun w' hw => ⟨((BS.out.on hw).get (.tail _ (.head _))).2.2.cell 0, ((BS.out.on hw).get (.tail _ (.head _))).2.2.cell 1⟩
  have A0 : Below wa.heap.size wa wa.drew := (Below.refl _ _).drew
  go_cut [34] (fun s34 wx => s34 = .bool false ∧ Hid (Below wa.heap.size wa wx))
  case first =>
    go_region_held3 (fun w' => w'.cell? ⟨fb, 0, none⟩ = some (.slice D n0 c0) ∧ w'.cell? ⟨fb, 1, none⟩ = some (.slice E n1 c1))
      (exact HALL.out _ (by assumption))
      (first
        | (go_at_call 44; (with_reducible refine (HV.out _ ?_).mono ?_); (first | assumption); rintro e6 w6 ⟨rfl, b6, t6⟩)
        | (go_at_call 40; (with_reducible refine (HO.out _ ?_).mono ?_); (first | assumption); rintro e7 w7 ⟨Da, ca, Db, cb', rfl, k7, l7, b7, t7⟩)
        | (go_at_call 58; (with_reducible refine (HC.out _ _ _ _ _ ?_ ?_ ?_).mono ?_); (first | assumption); (first | assumption); (first | assumption); rintro e8 w8 ⟨rfl, b8, t8⟩)
        | fail)
    all_goals
      go_wp2_with fail
      go_meet
      case rel => exact ⟨rfl, Lib.hid t8⟩
  obtain ⟨rfl, HW⟩ := hcut
  replace BS := Lib.hid (BS.out.on HW.out)
  clear HW HV HO HC HALL A0 HKV HKC
  rename World => wb
  obtain ⟨_, lf, kf⟩ := BS.out.get (.tail _ (.head _))
  have qf0 : wb.cell? ⟨fb, 0, none⟩ = some (.slice D n0 c0) := kf.cell 0
  have qf1 : wb.cell? ⟨fb, 1, none⟩ = some (.slice E n1 c1) := kf.cell 1
  clear kf
  go_wp2_with fail
  refine (rpower_any (a := d) hn1 H1.out (HY.out.below BS.out.below) (by omega)).mono ?_
  rintro e w3 ⟨⟨h9, _⟩ | ⟨_, rfl⟩, hb⟩
  case inl => exact absurd h9 (by have := H64.out; omega)
  replace BS := Lib.hid (BS.out.on hb)
  clear hb qf0 qf1
  obtain ⟨_, lz, kz⟩ := BS.out.get (.head _)
  have s0 : w3.cell? ⟨z, 0, none⟩ = some (.slice none 0 0) := kz.cell 0
  have s1 : w3.cell? ⟨z, 1, none⟩ = some (.slice none 0 0) := kz.cell 1
  have f0 : w3.frozen? ⟨z, 0, none⟩ = false := kz.frozen 0
  have f1 : w3.frozen? ⟨z, 1, none⟩ = false := kz.frozen 1
  clear kz
  have HB7 := Lib.hid BS.out.below
  go_wp2
  refine bodyPost_ret (v := .tuple #[fv none 0 0 none 0 0, .int .i64 9]) (by unfold fv; simp [results, Try.results21, go_sem, s0, s1, lz]) rfl ?_
  refine ⟨rfl, ?_⟩
  repeat' (first | exact HB7.out | refine bl_alloc ?_ _ | refine bse ?_ (by first | assumption | exact Nat.le_refl _) _ _)
set_option maxHeartbeats 8000000 in
set_option maxRecDepth 100000 in
theorem rtail_in (w : World) {D E : Option Addr} {n0 n1 c0 c1 : Nat} {n k a d : Nat} {cc : Int} (hn : n ≤ 64) (kv : ∀ w', Below w.heap.size w w' → Calls Try.prog 44 #[.agg #[.slice D n0 c0, .slice E n1 c1]] w' fun e w'' => e = .returned (.bool true) ∧ Below w'.heap.size w' w'')
    (kc : ∀ w' Da ca Db cb', Cells w' Da 1 (Lm (d32 1)) → Cells w' Db 1 (Lm (d32 1)) → Below w.heap.size w w' → Calls Try.prog 58 #[.agg #[.slice D n0 c0, .slice E n1 c1], .agg #[.slice Da 1 ca, .slice Db 1 cb']] w' fun e w'' => e = .returned (.int .i64 cc) ∧ Below w'.heap.size w' w'') (hcc : cc ≤ 0) (hk1 : 1 ≤ k) (hk : k ≤ n) (hn0 : n0 ≤ 64) (hn1 : n1 ≤ 64) (hd0 : n0 = L32 a) (hd1 : n1 = L32 d) (hx : Cells w D n0 (Lm (d32 a))) (hy : Cells w E n1 (Lm (d32 d))) (hd : 0 < d) (had : a ≤ d) (hd64 : L32 (d ^ n) ≤ 64)
    (hT : ∀ j, j ≤ n → L32 (a ^ j) ≤ 64 ∧ L32 ((d - a) ^ (n - j)) ≤ 64 ∧ L32 (a ^ j * (d - a) ^ (n - j)) ≤ 64 ∧ L32 (tm n a (d - a) j) ≤ 64) (hS : ∀ i, i ≤ n - k + 1 → L32 (st n a (d - a) k i) ≤ 64) :
    Calls Try.prog 21 #[.int .i64 (n : Int), .int .i64 (k : Int), fv D n0 c0 E n1 c1] w fun e w' => Res w.heap.size w' e (st n a (d - a) k (n - k + 1) / Nat.gcd (st n a (d - a) k (n - k + 1)) (d ^ n)) (d ^ n / Nat.gcd (st n a (d - a) k (n - k + 1)) (d ^ n)) ∧ Below w.heap.size w w' := by
  have BS0 := Lib.hid (boxesR w (.slice D n0 c0) (.slice E n1 c1))
  have HKV := Lib.hid kv
  have HKC := Lib.hid kc
  have h1 : decide ((n : Int) < 0) = false := decide_eq_false (by omega)
  have h2 : decide ((64 : Int) < (n : Int)) = false := decide_eq_false (by omega)
  have h3 : decide ((0 : Int) < cc) = false := decide_eq_false (by omega)
  have H0 := Lib.hid hd0
  have H1 := Lib.hid hd1
  have HX := Lib.hid hx
  have HY := Lib.hid hy
  have HAD := Lib.hid had
  have HT := Lib.hid hT
  have HS := Lib.hid hS
  have HD0 : Hid (0 < d ^ n) := Lib.hid (Nat.pow_pos hd)
  have HD64 := Lib.hid hd64
  obtain ⟨r, hr⟩ : ∃ r, r = d - a := ⟨_, rfl⟩
  have HR := Lib.hid hr
  rw [← hr] at HT HS ⊢
  obtain ⟨S, hSS⟩ : ∃ S, S = st n a r k (n - k + 1) := ⟨_, rfl⟩
  have HSS := Lib.hid hSS
  rw [← hSS]
  obtain ⟨qa, hqa⟩ : ∃ v, v = S / Nat.gcd S (d ^ n) := ⟨_, rfl⟩
  obtain ⟨qb, hqb⟩ : ∃ v, v = d ^ n / Nat.gcd S (d ^ n) := ⟨_, rfl⟩
  have HQA := Lib.hid hqa
  have HQB := Lib.hid hqb
  rw [← hqa, ← hqb]
  unfold fv
  clear kv kc hqa hqb hd0 hd1 hx hy had hT hS hd64 hr hSS hd
  go_enter Try.func21, Try.ntmps21
  go_upto_region 1 with (fail)
  obtain ⟨wa, hwa⟩ : ∃ wa, wa = ((w.alloc (.cells #[.slice D n0 c0, .slice E n1 c1] TF)).alloc (.cells #[.slice none 0 0, .slice none 0 0] TF)) := ⟨_, rfl⟩
  change Code.wp _ _ _ _ ((w.alloc (.cells #[.slice D n0 c0, .slice E n1 c1] TF)).alloc (.cells #[.slice none 0 0, .slice none 0 0] TF))
  rw [← hwa] at BS0 ⊢
  obtain ⟨fb, hfb⟩ : ∃ b, b = w.heap.size := ⟨_, rfl⟩
  obtain ⟨z, hz⟩ : ∃ b, b = w.heap.size + 1 := ⟨_, rfl⟩
  have hzw : w.heap.size ≤ z := by omega
  have bs0 := BS0.out
  rw [← hz, ← hfb] at bs0
  rw [show (Value.pointer (some ⟨w.heap.size, 0, none⟩)) = .pointer (some ⟨fb, 0, none⟩) by rw [hfb], show (Value.pointer (some ⟨w.heap.size + 1, 0, none⟩)) = .pointer (some ⟨z, 0, none⟩) by rw [hz]]
  have BS := Lib.hid bs0
  clear hwa BS0 bs0 hz hfb
  have HV : Hid (∀ w', Below wa.heap.size wa w' → Calls Try.prog 44 #[.agg #[.slice D n0 c0, .slice E n1 c1]] w' fun e w'' => e = .returned (.bool true) ∧ Below w'.heap.size w' w'' ∧ Below wa.heap.size wa w'') := Lib.hid fun w' hw => by
    refine (HKV.out w' (Below.on BS.out.below hw)).mono ?_
    rintro e w'' ⟨rfl, hb⟩
    exact ⟨rfl, hb, Below.on hw hb⟩
  have HO : Hid (∀ w', Below wa.heap.size wa w' → Calls Try.prog 40 #[.int .i64 1] w' fun e w'' => ∃ Da ca Db cb', e = .returned (.agg #[.slice Da 1 ca, .slice Db 1 cb']) ∧ Cells w'' Da 1 (Lm (d32 1)) ∧ Cells w'' Db 1 (Lm (d32 1)) ∧ Below w'.heap.size w' w'' ∧ Below wa.heap.size wa w'') := Lib.hid fun w' hw => by
    refine (one55_one w').mono ?_
    rintro e w'' ⟨⟨Da, ca, Db, cb', rfl, h1, h2⟩, hb⟩
    exact ⟨Da, ca, Db, cb', rfl, h1, h2, hb, Below.on hw hb⟩
  have HC : Hid (∀ w' Da ca Db cb', Cells w' Da 1 (Lm (d32 1)) → Cells w' Db 1 (Lm (d32 1)) → Below wa.heap.size wa w' → Calls Try.prog 58 #[.agg #[.slice D n0 c0, .slice E n1 c1], .agg #[.slice Da 1 ca, .slice Db 1 cb']] w' fun e w'' => e = .returned (.int .i64 cc) ∧ Below w'.heap.size w' w'' ∧ Below wa.heap.size wa w'') := Lib.hid fun w' Da ca Db cb' h1 h2 hw => by
    refine (HKC.out w' Da ca Db cb' h1 h2 (Below.on BS.out.below hw)).mono ?_
    rintro e w'' ⟨rfl, hb⟩
    exact ⟨rfl, hb, Below.on hw hb⟩
  have HALL : Hid (∀ w', Below wa.heap.size wa w' → w'.cell? ⟨fb, 0, none⟩ = some (.slice D n0 c0) ∧ w'.cell? ⟨fb, 1, none⟩ = some (.slice E n1 c1)) := Lib.hid fun w' hw => ⟨((BS.out.on hw).get (.tail _ (.head _))).2.2.cell 0, ((BS.out.on hw).get (.tail _ (.head _))).2.2.cell 1⟩
  have A0 : Below wa.heap.size wa wa.drew := (Below.refl _ _).drew
  go_cut [34] (fun s34 wx => s34 = .bool false ∧ Hid (Below wa.heap.size wa wx))
  case first =>
    go_region_held3 (fun w' => w'.cell? ⟨fb, 0, none⟩ = some (.slice D n0 c0) ∧ w'.cell? ⟨fb, 1, none⟩ = some (.slice E n1 c1))
      (exact HALL.out _ (by assumption))
      (first
        | (go_at_call 44; (with_reducible refine (HV.out _ ?_).mono ?_); (first | assumption); rintro e6 w6 ⟨rfl, b6, t6⟩)
        | (go_at_call 40; (with_reducible refine (HO.out _ ?_).mono ?_); (first | assumption); rintro e7 w7 ⟨Da, ca, Db, cb', rfl, k7, l7, b7, t7⟩)
        | (go_at_call 58; (with_reducible refine (HC.out _ _ _ _ _ ?_ ?_ ?_).mono ?_); (first | assumption); (first | assumption); (first | assumption); rintro e8 w8 ⟨rfl, b8, t8⟩)
        | fail)
    all_goals
      go_wp2_with fail
      go_meet
      case rel => exact ⟨rfl, Lib.hid t8⟩
  obtain ⟨rfl, HW⟩ := hcut
  replace BS := Lib.hid (BS.out.on HW.out)
  clear HW HV HO HC HALL A0 HKV HKC
  rename World => wb
  obtain ⟨_, lf, kf⟩ := BS.out.get (.tail _ (.head _))
  have qf0 : wb.cell? ⟨fb, 0, none⟩ = some (.slice D n0 c0) := kf.cell 0
  have qf1 : wb.cell? ⟨fb, 1, none⟩ = some (.slice E n1 c1) := kf.cell 1
  clear kf
  have j1 : ((k : Int) ≤ 0) = False := eq_false (by omega)
  have j2 : ((n : Int) < (k : Int)) = False := eq_false (by omega)
  go_wp2_with fail
  refine (rpower_any (a := d) hn1 H1.out (HY.out.below BS.out.below) (by omega)).mono ?_
  rintro e w3 ⟨⟨_, PD, lD, kD, rfl, hlD, hcD, hfD⟩ | ⟨h9, _⟩, hb⟩
  case inr => exact absurd h9 (by have := HD64.out; omega)
  have BQ := Lib.hid (BS.out.on hb)
  have BS3 := Lib.hid (BQ.out.alloc TN #[.slice PD lD kD])
  have HCD := Lib.hid (hcD.alloc (.cells #[.slice PD lD kD] TN))
  have HLD := Lib.hid hlD
  have HAZ := Lib.hid (show Fresh (z + 1) PD from hfD.mono (BS.out.get (.head _)).2.1)
  clear hb qf0 qf1 lf hlD hcD hfD BS
  obtain ⟨_, lf, kf⟩ := BQ.out.get (.tail _ (.head _))
  have qf0 : w3.cell? ⟨fb, 0, none⟩ = some (.slice D n0 c0) := kf.cell 0
  have qf1 : w3.cell? ⟨fb, 1, none⟩ = some (.slice E n1 c1) := kf.cell 1
  clear kf
  go_wp2_with fail
  refine (refSub_any (x := d) (y := a) hn1 hn0 H1.out H0.out (HY.out.below BS3.out.below) (HX.out.below BS3.out.below) HAD.out).mono ?_
  rintro e w4 ⟨Dr, cr, rfl, _, hcr, hfr, hb⟩
  rw [← HR.out] at hcr ⊢
  obtain ⟨lr, hlr⟩ : ∃ l, l = L32 r := ⟨_, rfl⟩
  rw [← hlr] at hcr ⊢
  have HLR := Lib.hid hlr
  have hlr64 : lr ≤ 64 := by rw [hlr, HR.out]; exact Nat.le_trans (Nt.len_mono (by omega) (Nat.sub_le d a)) (show L32 d ≤ 64 by rw [← show n1 = L32 d from H1.out]; exact hn1)
  have BQ4 := Lib.hid (BS3.out.on hb)
  have bs4 := (BQ4.out.alloc TN #[.slice Dr lr cr]).alloc TN #[.slice none 0 0]
  have HCR := Lib.hid ((hcr.alloc (.cells #[.slice Dr lr cr] TN)).alloc (.cells #[.slice none 0 0] TN))
  have HCD4 := Lib.hid (((HCD.out.below hb).alloc (.cells #[.slice Dr lr cr] TN)).alloc (.cells #[.slice none 0 0] TN))
  obtain ⟨ab, hab⟩ : ∃ b, b = w3.heap.size := ⟨_, rfl⟩
  obtain ⟨rb, hrb⟩ : ∃ b, b = w4.heap.size := ⟨_, rfl⟩
  obtain ⟨sb, hsb⟩ : ∃ b, b = w4.heap.size + 1 := ⟨_, rfl⟩
  have g1 := (BQ4.out.get (.head _)).2.1
  have g2 := (BQ.out.get (.head _)).2.1
  have g3 := (BQ.out.get (.tail _ (.head _))).2.1
  have s1 : rb < sb := by omega
  have s2 : ab < sb := by omega
  have s3 : z < sb := by omega
  have s4 : fb < sb := by omega
  have s5 : z < ab := by omega
  have HOR : Hid (Off sb Dr lr) := Lib.hid (Off.of_cells hcr (by omega))
  have HOD : Hid (Off sb PD lD) := Lib.hid (Off.of_cells (HCD.out.below hb) (by omega))
  have HAP : Hid (Fresh (ab + 1) Dr) := Lib.hid (hfr.mono (by rw [World.size_alloc]; omega))
  obtain ⟨wc, hwc⟩ : ∃ wc, wc = (w4.alloc (.cells #[.slice Dr lr cr] TN)).alloc (.cells #[.slice none 0 0] TN) := ⟨_, rfl⟩
  rw [World.size_alloc] at bs4
  rw [← hwc] at bs4 HCR HCD4
  rw [← hsb, ← hrb, ← hab] at bs4
  have BS4 := Lib.hid bs4
  have HSB : Hid (w.heap.size ≤ sb) := Lib.hid (bs4.get (.head _)).1
  clear hb qf0 qf1 lf hlr hcr hfr bs4 BQ BQ4 BS3 HCD g1 g2 g3
  unfold natv
  go_wp2
  change Code.wp _ _ _ _ ((w4.alloc (.cells #[.slice Dr lr cr] TN)).alloc (.cells #[.slice none 0 0] TN))
  rw [← hwc]
  rw [show (Value.pointer (some ⟨w4.heap.size + 1, 0, none⟩)) = .pointer (some ⟨sb, 0, none⟩) by rw [hsb], show (Value.pointer (some ⟨w4.heap.size, 0, none⟩)) = .pointer (some ⟨rb, 0, none⟩) by rw [hrb], show (Value.pointer (some ⟨w3.heap.size, 0, none⟩)) = .pointer (some ⟨ab, 0, none⟩) by rw [hab]]
  clear hwc hsb hrb hab
  go_loopw [13] (fun s13 wr => ∃ (i j : Nat) (Dn : Option Addr) (l c : Nat), i ≤ n - k + 1 ∧ Hid (j = k + i) ∧ s13 = .int .i64 (j : Int) ∧ Hid (l = L32 (st n a r k i)) ∧ Hid (Cells wr Dn l (Lm (d32 (st n a r k i)))) ∧ Hid (Bs w wr [(sb, TN, #[.slice Dn l c]), (rb, TN, #[.slice Dr lr cr]), (ab, TN, #[.slice PD lD kD]), (z, TF, #[.slice none 0 0, .slice none 0 0]), (fb, TF, #[.slice D n0 c0, .slice E n1 c1])]) ∧ Hid (Cells wr Dr lr (Lm (d32 r))) ∧ Hid (Cells wr PD lD (Lm (d32 (d ^ n)))) ∧ Hid (Fresh (sb + 1) Dn)) (fun i _ => (n + 1) - (intOf i).toNat)
  case atStart => exact ⟨0, k, none, 0, 0, Nat.zero_le _, Lib.hid rfl, rfl, Lib.hid (L32_zero.2 rfl).symm, Lib.hid Cells.nil, BS4, HCR, HCD4, Lib.hid fresh_none⟩
  case round =>
    clear BS4 HCR HCD4
    obtain ⟨i, j, Dn, l, c, hi, HJ, rfl, HL, HC, HBS, HCR, HCD, HFN⟩ := hrel
    have hj : j = k + i := HJ.out
    have l64 : l ≤ 64 := by rw [HL.out]; exact HS.out i hi
    have qr : wr.cell? ⟨rb, 0, none⟩ = some (.slice Dr lr cr) := (HBS.out.get (.tail _ (.head _))).2.2.cell 0
    have lrb := (HBS.out.get (.tail _ (.head _))).2.1
    by_cases hjn : j ≤ n
    · have hjn2 : ((j : Int) ≤ (n : Int)) := by omega
      have HJN := Lib.hid hjn
      have HIN := Lib.hid (show i + 1 ≤ n - k + 1 by omega)
      have HSN := Lib.hid (HS.out (i + 1) (by omega))
      have hw5 : IntKind.i64.wrap ((j : Int) + 1) = (j : Int) + 1 := IntWalk.i64_in _ (by omega)
      obtain ⟨m, hm⟩ : ∃ m, m = n - j := ⟨_, rfl⟩
      have hw6 : IntKind.i64.wrap ((n : Int) - (j : Int)) = (m : Int) := by rw [IntWalk.i64_in _ (by omega)]; omega
      have HST : Hid (st n a r k i + tm n a r j = st n a r k (i + 1)) := Lib.hid (by rw [st, hj])
      have HTJ := Lib.hid (HT.out j hjn)
      rw [← hm] at HTJ
      have HTM : Hid (tm n a r j = a ^ j * r ^ m * cb n j) := Lib.hid (by unfold tm; rw [← hm, Nat.one_mul])
      have HM := Lib.hid hm
      have m64 : m ≤ 64 := by omega
      by_cases hskip : lr = 0 ∧ j < n
      · obtain ⟨hs1, hs2⟩ := hskip
        have t1 : ((lr : Int) == 0) = true := by simp [hs1]
        have t2 : ((j : Int) < (n : Int)) := by omega
        have HZT : Hid (st n a r k i = st n a r k (i + 1)) := Lib.hid (by
          rw [← HST.out, HTM.out, show r = 0 from L32_zero.1 (by rw [← HLR.out]; exact hs1), Nat.zero_pow (by omega), Nat.mul_zero, Nat.zero_mul, Nat.add_zero])
        clear hj hjn hi hm hs1 hs2
        go_wp2
        go_roundw
        case rel =>
          rw [HZT.out] at HL HC
          exact ⟨i + 1, j + 1, Dn, l, c, HIN.out, Lib.hid (by rw [HJ.out]; omega), by go_num, HL, HC, HBS, HCR, HCD, HFN⟩
        case measure => have := HJN.out; simp [intOf] <;> omega
      · have ht : ((lr : Int) == 0) = false ∨ ((lr : Int) == 0) = true ∧ ((j : Int) < (n : Int)) = False := by
          rcases Nat.eq_zero_or_pos lr with h | h
          · exact .inr ⟨by simp [h], eq_false (by omega)⟩
          · exact .inl (by simp; omega)
        clear hskip hj hjn hi hm
        go_upto_region 15 with (fail)
        go_cut [76] (fun s76 wx => s76 = .bool false ∧ wx = wr)
        case first =>
          rcases ht with t1 | ⟨t1, t2⟩
          all_goals
            go_wp2_with fail
            go_meet
            case rel => exact ⟨rfl, rfl⟩
        obtain ⟨rfl, hwx⟩ := hcut
        obtain rfl := hwx.symm
        clear ht qr lrb
        obtain ⟨_, lf, kf⟩ := HBS.out.get (.tail _ (.tail _ (.tail _ (.tail _ (.head _)))))
        have qf0 : wr.cell? ⟨fb, 0, none⟩ = some (.slice D n0 c0) := kf.cell 0
        clear kf
        go_wp2_with fail
        refine (rpower_any (a := a) hn0 H0.out (HX.out.below HBS.out.below) (show j ≤ 9223372036854775806 by have := HJN.out; omega)).mono ?_
        rintro e w5 ⟨⟨_, DA, lA, cA, rfl, hlA, hcA, hfA⟩ | ⟨h9, _⟩, hb⟩
        case inr => exact absurd h9 (by have := HTJ.out.1; omega)
        have BQ := Lib.hid (HBS.out.on hb)
        have BS5 := Lib.hid (BQ.out.alloc TN #[.slice DA lA cA])
        have HCA := Lib.hid (hcA.alloc (.cells #[.slice DA lA cA] TN))
        have HLA := Lib.hid hlA
        have HC5 := Lib.hid ((HC.out.below hb).alloc (.cells #[.slice DA lA cA] TN))
        have HCR5 := Lib.hid ((HCR.out.below hb).alloc (.cells #[.slice DA lA cA] TN))
        have HCD5 := Lib.hid ((HCD.out.below hb).alloc (.cells #[.slice DA lA cA] TN))
        clear hb qf0 lf hlA hcA hfA HBS HC HCR HCD
        obtain ⟨_, lrb, krb⟩ := BQ.out.get (.tail _ (.head _))
        have qr : w5.cell? ⟨rb, 0, none⟩ = some (.slice Dr lr cr) := krb.cell 0
        clear krb
        go_wp2_with fail
        refine (rpower_any (a := r) (n := m) hlr64 HLR.out HCR5.out (by omega)).mono ?_
        rintro e w6 ⟨⟨_, DB, lB, cB, rfl, hlB, hcB, hfB⟩ | ⟨h9, _⟩, hb⟩
        case inr => exact absurd h9 (by have := HTJ.out.2.1; omega)
        have bs6 := (BS5.out.on hb).alloc TN #[.slice DB lB cB]
        have HCB := Lib.hid (hcB.alloc (.cells #[.slice DB lB cB] TN))
        have HLB := Lib.hid hlB
        have HCA6 := Lib.hid ((HCA.out.below hb).alloc (.cells #[.slice DB lB cB] TN))
        have HC6 := Lib.hid ((HC5.out.below hb).alloc (.cells #[.slice DB lB cB] TN))
        have HCR6 := Lib.hid ((HCR5.out.below hb).alloc (.cells #[.slice DB lB cB] TN))
        have HCD6 := Lib.hid ((HCD5.out.below hb).alloc (.cells #[.slice DB lB cB] TN))
        obtain ⟨bA, hbA⟩ : ∃ b, b = w5.heap.size := ⟨_, rfl⟩
        obtain ⟨bB, hbB⟩ : ∃ b, b = w6.heap.size := ⟨_, rfl⟩
        obtain ⟨wd, hwd⟩ : ∃ wd, wd = w6.alloc (.cells #[.slice DB lB cB] TN) := ⟨_, rfl⟩
        have y1 := (BQ.out.get (.head _)).2.1
        have y2 := ((BS5.out.on hb).get (.tail _ (.head _))).2.1
        have nA : bA ≠ sb := by omega
        have nB : bB ≠ sb := by omega
        rw [← hwd] at bs6 HCB HCA6 HC6 HCR6 HCD6
        rw [← hbA, ← hbB] at bs6
        have BSd := Lib.hid bs6
        clear hb qr lrb hlB hcB hfB bs6 BQ BS5 HCA HC5 HCR5 HCD5 y1 y2
        obtain ⟨x, hx⟩ : ∃ x, x = a ^ j := ⟨_, rfl⟩
        obtain ⟨y, hy⟩ : ∃ y, y = r ^ m := ⟨_, rfl⟩
        obtain ⟨v, hv⟩ : ∃ v, v = cb n j := ⟨_, rfl⟩
        rw [← hx] at HLA HCA6 HTM HTJ
        rw [← hy] at HLB HCB HTM HTJ
        rw [← hv] at HTM
        obtain ⟨p, hp⟩ : ∃ p, p = x * y := ⟨_, rfl⟩
        rw [← hp] at HTM HTJ
        obtain ⟨t, ht⟩ : ∃ t, t = tm n a r j := ⟨_, rfl⟩
        rw [← ht] at HTM HTJ HST
        have HP := Lib.hid hp
        have K1 := fun w' => rch_any w' (n := n) (by omega) (j : Int)
        rw [show cz n (j : Int) = v by have := HJN.out; unfold cz; rw [if_pos (by omega), hv]; rfl] at K1
        have HK1 := Lib.hid K1
        have hv17 : L32 v ≤ 17 := by rw [hv]; exact cb_len (by omega) HJN.out
        have HV64 := Lib.hid (show L32 v ≤ 64 by omega)
        clear hx hy hv hp ht K1 hv17
        have HM1 : Hid (∀ w', Below wd.heap.size wd w' → Calls Try.prog 41 #[.agg #[.slice DA lA cA], .agg #[.slice DB lB cB]] w' fun e w'' => ∃ (D : Option Addr) (l c : Nat), e = .returned (.agg #[.slice D l c]) ∧ Hid (l = L32 p) ∧ Cells w'' D l (Lm (d32 p)) ∧ Fresh w'.heap.size D ∧ Below w'.heap.size w' w'' ∧ Below wd.heap.size wd w'') := Lib.hid fun w' hw => by
          refine (rmul55_any (x := x) (y := y) (by rw [HLA.out]; exact HTJ.out.1) (by rw [HLB.out]; exact HTJ.out.2.1) HLA.out HLB.out (HCA6.out.below hw) (HCB.out.below hw) (by rw [← HP.out]; exact HTJ.out.2.2.1)).mono ?_
          rintro e w'' ⟨⟨D, l, c, rfl, h3, h4, h5⟩, hb⟩
          rw [← HP.out] at h3 h4
          exact ⟨D, l, c, rfl, Lib.hid h3, h4, h5, hb, Below.on hw hb⟩
        have HCH : Hid (∀ w', Below wd.heap.size wd w' → Calls Try.prog 61 #[.int .i64 (n : Int), .int .i64 (j : Int)] w' fun e w'' => ∃ (D : Option Addr) (l c : Nat), e = .returned (.agg #[.slice D l c]) ∧ Hid (l = L32 v) ∧ Cells w'' D l (Lm (d32 v)) ∧ Fresh w'.heap.size D ∧ Below w'.heap.size w' w'' ∧ Below wd.heap.size wd w'') := Lib.hid fun w' hw => by
          refine (HK1.out w').mono ?_
          rintro e w'' ⟨⟨D, l, c, rfl, h1, h2, h3⟩, hb⟩
          exact ⟨D, l, c, rfl, Lib.hid h1, h2, h3, hb, Below.on hw hb⟩
        have HM2 : Hid (∀ w' D1 l1 c1 D2 l2 c2, Hid (l1 = L32 p) → Cells w' D1 l1 (Lm (d32 p)) → Hid (l2 = L32 v) → Cells w' D2 l2 (Lm (d32 v)) → Below wd.heap.size wd w' → Calls Try.prog 41 #[.agg #[.slice D1 l1 c1], .agg #[.slice D2 l2 c2]] w' fun e w'' => ∃ (D : Option Addr) (l c : Nat), e = .returned (.agg #[.slice D l c]) ∧ Hid (l = L32 t) ∧ Cells w'' D l (Lm (d32 t)) ∧ Fresh w'.heap.size D ∧ Below w'.heap.size w' w'' ∧ Below wd.heap.size wd w'') := Lib.hid fun w' D1 l1 c1 D2 l2 c2 hl1 g1 hl2 g2 hw => by
          refine (rmul55_any (x := p) (y := v) (by rw [hl1.out]; exact HTJ.out.2.2.1) (by rw [hl2.out]; exact HV64.out) hl1.out hl2.out g1 g2 (by rw [← HTM.out]; exact HTJ.out.2.2.2)).mono ?_
          rintro e w'' ⟨⟨D, l, c, rfl, h3, h4, h5⟩, hb⟩
          rw [← HTM.out] at h3 h4
          exact ⟨D, l, c, rfl, Lib.hid h3, h4, h5, hb, Below.on hw hb⟩
        obtain ⟨sn, hsn⟩ : ∃ s, s = st n a r k (i + 1) := ⟨_, rfl⟩
        have HSN2 := Lib.hid hsn
        rw [← hsn] at HST HSN
        have HAD : Hid (∀ w' D1 l1 c1, Hid (l1 = L32 t) → Cells w' D1 l1 (Lm (d32 t)) → Below wd.heap.size wd w' → Calls Try.prog 46 #[.agg #[.slice Dn l c], .agg #[.slice D1 l1 c1]] w' fun e w'' => ∃ (D : Option Addr) (l c : Nat), e = .returned (.tuple #[.agg #[.slice D l c], .int .i64 0]) ∧ Hid (l = L32 sn) ∧ Cells w'' D l (Lm (d32 sn)) ∧ Fresh w'.heap.size D ∧ Below w'.heap.size w' w'' ∧ Below wd.heap.size wd w'') := Lib.hid fun w' D1 l1 c1 hl1 g1 hw => by
          refine (refAdd_any (x := st n a r k i) (y := t) l64 (by rw [hl1.out]; exact HTJ.out.2.2.2) HL.out hl1.out (HC6.out.below hw) g1).mono ?_
          rintro e w'' ⟨hr, hb⟩
          rw [HST.out] at hr
          rcases hr with ⟨_, D, c, rfl, _, h4, h5⟩ | ⟨h9, _⟩
          · exact ⟨D, _, c, rfl, Lib.hid rfl, h4, h5, hb, Below.on hw hb⟩
          · exact absurd h9 (by have := HSN.out; omega)
        have HALL : Hid (∀ w', Below wd.heap.size wd w' → w'.cell? ⟨bA, 0, none⟩ = some (.slice DA lA cA) ∧ w'.cell? ⟨bB, 0, none⟩ = some (.slice DB lB cB)) := Lib.hid fun w' hw => ⟨((BSd.out.on hw).get (.tail _ (.head _))).2.2.cell 0, ((BSd.out.on hw).get (.head _)).2.2.cell 0⟩
        have A0 : Below wd.heap.size wd wd.drew := (Below.refl _ _).drew
        obtain ⟨_, lsb, ksb⟩ := BSd.out.get (.tail _ (.tail _ (.head _)))
        have qs : wd.cell? ⟨sb, 0, none⟩ = some (.slice Dn l c) := ksb.cell 0
        obtain ⟨qA, qB⟩ := HALL.out wd (Below.refl _ _)
        have fs : wd.frozen? ⟨sb, 0, none⟩ = false := ksb.frozen 0
        clear ksb hsn
        go_wp2_with fail
        change Code.wp _ _ _ _ (w6.alloc (.cells #[.slice DB lB cB] TN))
        rw [← hwd]
        rw [show (Value.pointer (some ⟨w5.heap.size, 0, none⟩)) = .pointer (some ⟨bA, 0, none⟩) by rw [hbA], show (Value.pointer (some ⟨w6.heap.size, 0, none⟩)) = .pointer (some ⟨bB, 0, none⟩) by rw [hbB]]
        clear hwd hbA hbB
        go_region_with
          (first
            | (go_at_call 41; (with_reducible refine (HM1.out _ ?_).mono ?_); (first | assumption); rintro e1 v1 ⟨D1, l1, y1', rfl, hl1, hc1, hf1, hb1, t1⟩; have q1 : v1.cell? ⟨sb, 0, none⟩ = some (.slice Dn l c) := ((bcell t1).1 _ _ lsb).trans qs)
            | (go_at_call 61; (with_reducible refine (HCH.out _ ?_).mono ?_); (first | assumption); rintro e2 v2 ⟨D2, l2, y2', rfl, hl2, hc2, hf2, hb2, t2⟩; have hc12 := hc1.below hb2; have q2 : v2.cell? ⟨sb, 0, none⟩ = some (.slice Dn l c) := ((bcell t2).1 _ _ lsb).trans qs)
            | (go_at_call 41; (with_reducible refine (HM2.out _ _ _ _ _ _ _ ?_ ?_ ?_ ?_ ?_).mono ?_); (first | assumption); (first | assumption); (first | assumption); (first | assumption); (first | assumption); rintro e3 v3 ⟨D3, l3, c3, rfl, hl3, hc3, hf3, hb3, t3⟩; have q3 : v3.cell? ⟨sb, 0, none⟩ = some (.slice Dn l c) := ((bcell t3).1 _ _ lsb).trans qs)
            | (go_at_call 46; (with_reducible refine (HAD.out _ _ _ _ ?_ ?_ ?_).mono ?_); (first | assumption); (first | assumption); (first | assumption); rintro e4 v4 ⟨D4, l4, c4, rfl, hl4, hc4, hf4, hb4, t4⟩; have q4 : v4.cell? ⟨sb, 0, none⟩ = some (.slice Dn l c) := ((bcell t4).1 _ _ lsb).trans qs; have f4 : v4.frozen? ⟨sb, 0, none⟩ = false := ((bcell t4).2 _ _ lsb).trans fs; have s4' := t3.size)
            | fail)
        all_goals
          have HBN := Lib.hid (((BSd.out.on t4).sub (l' := [(sb, TN, #[.slice Dn l c]), (rb, TN, #[.slice Dr lr cr]), (ab, TN, #[.slice PD lD kD]), (z, TF, #[.slice none 0 0, .slice none 0 0]), (fb, TF, #[.slice D n0 c0, .slice E n1 c1])]) (fun x hx => .tail _ (.tail _ hx))).put (i := 0) (u := .slice D4 l4 c4) (fun b' t' cs' hb => by simp at hb; omega))
          have HCN := Lib.hid (hc4.set_ hf4 (g := sb) (Nat.lt_of_lt_of_le lsb s4') 0 (.slice D4 l4 c4))
          have HFN := Lib.hid (hf4.mono (show sb + 1 ≤ _ from Nat.lt_of_lt_of_le lsb s4'))
          have HCRN := Lib.hid ((HCR6.out.below t4).off HOR.out 0 (.slice D4 l4 c4))
          have HCDN := Lib.hid ((HCD6.out.below t4).off HOD.out 0 (.slice D4 l4 c4))
          rw [HSN2.out] at hl4 HCN
          clear hc4 hf4
          go_wp2
          go_roundw
          case rel => exact ⟨i + 1, j + 1, D4, l4, c4, HIN.out, Lib.hid (by rw [HJ.out]; omega), by go_num, hl4, HCN, HBN, HCRN, HCDN, HFN⟩
          case measure => have := HJN.out; simp [intOf] <;> omega
    · have hjn2 : ((j : Int) ≤ (n : Int)) = False := eq_false (by omega)
      obtain rfl : i = n - k + 1 := by omega
      rw [← HSS.out] at HL HC
      obtain ⟨_, lsb, ksb⟩ := HBS.out.get (.head _)
      obtain ⟨_, lab, kab⟩ := HBS.out.get (.tail _ (.tail _ (.head _)))
      have qs : wr.cell? ⟨sb, 0, none⟩ = some (.slice Dn l c) := ksb.cell 0
      have qa_ : wr.cell? ⟨ab, 0, none⟩ = some (.slice PD lD kD) := kab.cell 0
      have lD64 : lD ≤ 64 := by rw [HLD.out]; exact HD64.out
      clear ksb kab hj hi hjn qr lrb
      go_wp2_with fail
      refine (rmake_any (x := S) (y := d ^ n) l64 lD64 HL.out HLD.out HC.out HCD.out HD0.out).mono ?_
      rintro e w5 ⟨⟨Da', ca', Db', cb', rfl, hla, hlb, hca, hcb, hfa, hfb⟩, hb5⟩
      rw [← HQA.out] at hla hca ⊢
      rw [← HQB.out] at hlb hcb ⊢
      have HZ6 := Lib.hid (HBS.out.get (.tail _ (.tail _ (.tail _ (.head _))))).2.1
      have HW6 := Lib.hid HBS.out.below.size
      have BS := Lib.hid (HBS.out.on hb5)
      clear hb5 qs qa_ lsb lab
      obtain ⟨_, lz, kz⟩ := BS.out.get (.tail _ (.tail _ (.tail _ (.head _))))
      have s0 : w5.cell? ⟨z, 0, none⟩ = some (.slice none 0 0) := kz.cell 0
      have s1 : w5.cell? ⟨z, 1, none⟩ = some (.slice none 0 0) := kz.cell 1
      have f0 : w5.frozen? ⟨z, 0, none⟩ = false := kz.frozen 0
      have f1 : w5.frozen? ⟨z, 1, none⟩ = false := kz.frozen 1
      clear kz
      have HB7 := Lib.hid BS.out.below
      obtain ⟨l1, hl1⟩ : ∃ l, l = L32 (qa) := ⟨_, rfl⟩
      obtain ⟨l2, hl2⟩ : ∃ l, l = L32 (qb) := ⟨_, rfl⟩
      rw [← hl1] at hla hca ⊢
      rw [← hl2] at hlb hcb ⊢
      have HL1 := Lib.hid hl1
      have HL2 := Lib.hid hl2
      have HCA := Lib.hid hca
      have HCB := Lib.hid hcb
      have HFA := Lib.hid hfa
      have HFB := Lib.hid hfb
      clear hl1 hl2 hca hcb hfa hfb
      unfold fv
      go_wp2
      refine bodyPost_ret (v := .tuple #[fv Da' l1 ca' Db' l2 cb', .int .i64 0]) (by unfold fv; simp [results, Try.results21, go_sem, s0, s1]) rfl ?_
      refine ⟨⟨Da', ca', Db', cb', by rw [← HL1.out, ← HL2.out], by rw [← HL1.out]; exact hla, by rw [← HL2.out]; exact hlb, ?_, ?_, HFA.out.mono HW6.out, HFB.out.mono HW6.out⟩, ?_⟩
      · rw [← HL1.out]
        exact (HCA.out.set_ HFA.out HZ6.out _ _).set_ HFA.out HZ6.out _ _
      · rw [← HL2.out]
        exact (HCB.out.set_ HFB.out HZ6.out _ _).set_ HFB.out HZ6.out _ _
      · exact bse (bse HB7.out hzw _ _) hzw _ _
end Fa
end Go.Proofs.Ytiflmnmkmpjecaa
