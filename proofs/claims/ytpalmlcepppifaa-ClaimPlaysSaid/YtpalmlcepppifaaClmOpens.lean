/- Arguments of the types Act and []Act, opened; an act's number cut at 40 bytes. -/
import Derived.Test.YtpalmlcepppifaaClmLawC
import Derived.Test.YtpalmlcepppifaaFields
import Derived.Lib.SmallJoins
set_option linter.unusedVariables false
namespace Go.Proofs.Ytpalmlcepppifaa
open Go.ChangeShapes Go.WideShapes Go.RowKit Go.Joins Go.Deep

/-- An act. -/
structure Ac where
  (k : Int) (nm : ByteArray) (am fr ex at_ mo : Int)
instance : Inhabited Ac := ⟨⟨0, ⟨#[]⟩, 0, 0, 0, 0, 0⟩⟩
def acC (a : Ac) : Array Value := #[.int .i64 a.k, .string a.nm, .int .i64 a.am, .int .i64 a.fr, .int .i64 a.ex, .int .i64 a.at_, .int .i64 a.mo]
def Seven (R : Nat → Ac) : Nat → Value := fun j => (acC (R (j / 7))).getD (j % 7) (.bool false)
theorem Seven_at (R : Nat → Ac) (k i : Nat) (hi : i < 7) : Seven R (k * 7 + i) = (acC (R k)).getD i (.bool false) := by
  unfold Seven
  rw [show (k * 7 + i) / 7 = k by omega, show (k * 7 + i) % 7 = i by omega]
theorem Cells.seven {w : World} {D : Option Addr} {n : Nat} {R : Nat → Ac} (h : Cells w D (n * 7) (Seven R)) {k : Nat} (hk : k < n) :
    ∃ b off, D = some ⟨b, off, none⟩ ∧ b < w.heap.size ∧ w.cell? ⟨b, off + k * 7, none⟩ = some (.int .i64 (R k).k) ∧ w.cell? ⟨b, off + k * 7 + 1, none⟩ = some (.string (R k).nm) ∧ w.cell? ⟨b, off + k * 7 + 2, none⟩ = some (.int .i64 (R k).am) ∧ w.cell? ⟨b, off + k * 7 + 3, none⟩ = some (.int .i64 (R k).fr) ∧
      w.cell? ⟨b, off + k * 7 + 4, none⟩ = some (.int .i64 (R k).ex) ∧ w.cell? ⟨b, off + k * 7 + 5, none⟩ = some (.int .i64 (R k).at_) ∧ w.cell? ⟨b, off + k * 7 + 6, none⟩ = some (.int .i64 (R k).mo) := by
  obtain ⟨b, off, e, hlt, hc⟩ := h (by omega)
  exact ⟨b, off, e, hlt, (hc (k * 7) (by omega)).trans (by rw [show k * 7 = k * 7 + 0 by omega, Seven_at R k 0 (by omega)]; rfl), (hc (k * 7 + 1) (by omega)).trans (by rw [Seven_at R k 1 (by omega)]; rfl), (hc (k * 7 + 2) (by omega)).trans (by rw [Seven_at R k 2 (by omega)]; rfl),
    (hc (k * 7 + 3) (by omega)).trans (by rw [Seven_at R k 3 (by omega)]; rfl), (hc (k * 7 + 4) (by omega)).trans (by rw [Seven_at R k 4 (by omega)]; rfl), (hc (k * 7 + 5) (by omega)).trans (by rw [Seven_at R k 5 (by omega)]; rfl), (hc (k * 7 + 6) (by omega)).trans (by rw [Seven_at R k 6 (by omega)]; rfl)⟩

theorem open_act {H : Type} {enc : TypeId × Value → H} {W : World} {base : Nat} {v : Value} {d : DataW H} {p : List MemPlace}
    (hv : Value.okWide Try.prog W .any base 70 v) (hj : DataW.Trod enc Try.prog W 0 (fun _ => true) true 70 v d p) :
    ∃ a : Ac, v = .agg (acC a) ∧ a.nm.size ≤ maxLen := by
  obtain ⟨cs, rfl, hsz⟩ := okWide_struct Try.underlying70 hv
  obtain ⟨l⟩ := cs
  have hC : Try.prog.cellsOf 70 = 7 := by kernel_rfl
  match l, hsz.trans hC with
  | [c0, c1, c2, c3, c4, c5, c6], _ =>
    obtain ⟨fuel, hf⟩ := hj
    obtain ⟨xs, n, _, hx, _, hlen, hg⟩ := DataW.trod_struct Try.underlying70 hf
    have h1c : Try.prog.cellsOf 3 = 1 := by kernel_rfl
    have h1s : Try.prog.cellsOf 9 = 1 := by kernel_rfl
    have h0 := hg 0 _ rfl
    have h1 := hg 1 _ rfl
    have h2 := hg 2 _ rfl
    have h3 := hg 3 _ rfl
    have h4 := hg 4 _ rfl
    have h5 := hg 5 _ rfl
    have h6 := hg 6 _ rfl
    simp [Value.cells, h1c, h1s] at h0 h1 h2 h3 h4 h5 h6
    match xs, hlen with
    | [y0, y1, y2, y3, y4, y5, y6], _ =>
      obtain ⟨a0, e0, _, _⟩ := DataW.trod_int (x := y0) Try.underlying3 (by simpa using h0)
      obtain ⟨a1, e1, _, hs⟩ := DataW.trod_string (x := y1) Try.underlying9 (by simpa using h1)
      obtain ⟨a2, e2, _, _⟩ := DataW.trod_int (x := y2) Try.underlying3 (by simpa using h2)
      obtain ⟨a3, e3, _, _⟩ := DataW.trod_int (x := y3) Try.underlying3 (by simpa using h3)
      obtain ⟨a4, e4, _, _⟩ := DataW.trod_int (x := y4) Try.underlying3 (by simpa using h4)
      obtain ⟨a5, e5, _, _⟩ := DataW.trod_int (x := y5) Try.underlying3 (by simpa using h5)
      obtain ⟨a6, e6, _, _⟩ := DataW.trod_int (x := y6) Try.underlying3 (by simpa using h6)
      simp at e0 e1 e2 e3 e4 e5 e6
      subst e0 e1 e2 e3 e4 e5 e6
      exact ⟨⟨a0, a1, a2, a3, a4, a5, a6⟩, rfl, hs⟩

theorem open_acts {H : Type} {enc : TypeId × Value → H} {W : World} {base : Nat} {v : Value} {d : DataW H} {p : List MemPlace}
    (hv : Value.okWide Try.prog W .any base 65 v) (hj : DataW.Trod enc Try.prog W 0 (fun _ => true) true 65 v d p) :
    ∃ (A : Option Addr) (n c : Nat) (R : Nat → Ac), v = .slice A n c ∧ n ≤ c ∧ c ≤ maxLen ∧ Cells W A (n * 7) (Seven R) ∧ ∀ i, i < n → (R i).nm.size ≤ maxLen := by
  obtain ⟨a0, len, cap, rfl⟩ := okWide_slice Try.underlying65 hv
  obtain ⟨fuel, hf⟩ := hj
  rcases open_slice_fields Try.underlying65 Try.underlying70 (by kernel_rfl) (by kernel_rfl) hf with ⟨hcs, _⟩ | ⟨a, l, c, m, D, Pl, hcs, _, hl, hc, hm, _, hi⟩
  · simp [Value.cells] at hcs
    obtain ⟨rfl, rfl, rfl⟩ := hcs
    exact ⟨none, 0, 0, fun _ => default, rfl, Nat.le_refl _, Nat.zero_le _, Cells.nil, fun i hi => absurd hi (by omega)⟩
  · simp [Value.cells] at hcs
    obtain ⟨rfl, rfl, rfl⟩ := hcs
    have key : ∀ i, i < len → ∃ x : Ac, (∀ j, j < 7 → W.cell? (a.add (i * 7 + j)) = some ((acC x).getD j (.bool false))) ∧ x.nm.size ≤ maxLen := by
      intro i hil
      obtain ⟨ys, n, _, _, _, hff⟩ := hi i (by rw [hm]; simp; omega)
      obtain ⟨v0, y0, hc0, _, ht0⟩ := hff 0 _ rfl
      obtain ⟨v1, y1, hc1, _, ht1⟩ := hff 1 _ rfl
      obtain ⟨v2, y2, hc2, _, ht2⟩ := hff 2 _ rfl
      obtain ⟨v3, y3, hc3, _, ht3⟩ := hff 3 _ rfl
      obtain ⟨v4, y4, hc4, _, ht4⟩ := hff 4 _ rfl
      obtain ⟨v5, y5, hc5, _, ht5⟩ := hff 5 _ rfl
      obtain ⟨v6, y6, hc6, _, ht6⟩ := hff 6 _ rfl
      obtain ⟨x0, e0, _, _⟩ := DataW.trod_int Try.underlying3 ht0
      obtain ⟨x1, e1, _, hs⟩ := DataW.trod_string Try.underlying9 ht1
      obtain ⟨x2, e2, _, _⟩ := DataW.trod_int Try.underlying3 ht2
      obtain ⟨x3, e3, _, _⟩ := DataW.trod_int Try.underlying3 ht3
      obtain ⟨x4, e4, _, _⟩ := DataW.trod_int Try.underlying3 ht4
      obtain ⟨x5, e5, _, _⟩ := DataW.trod_int Try.underlying3 ht5
      obtain ⟨x6, e6, _, _⟩ := DataW.trod_int Try.underlying3 ht6
      simp at e0 e1 e2 e3 e4 e5 e6
      subst e0 e1 e2 e3 e4 e5 e6
      refine ⟨⟨x0, x1, x2, x3, x4, x5, x6⟩, fun j hj => ?_, hs⟩
      match j, hj with
      | 0, _ => exact hc0
      | 1, _ => exact hc1
      | 2, _ => exact hc2
      | 3, _ => exact hc3
      | 4, _ => exact hc4
      | 5, _ => exact hc5
      | 6, _ => exact hc6
    obtain ⟨f, hfr⟩ := pick key
    refine ⟨some a, len, cap, f, rfl, hl, hc, Cells.mk_ fun j hj => ?_, fun i hi => (hfr i hi).2⟩
    have hs := (hfr (j / 7) (by omega)).1 (j % 7) (Nat.mod_lt _ (by omega))
    rw [show j / 7 * 7 + j % 7 = j by omega] at hs
    exact hs

/-- A text cut at 40 bytes. -/
def cut40 (s : ByteArray) : ByteArray := s.extract 0 (min s.size 40)
theorem cut40_size (s : ByteArray) : (cut40 s).size ≤ maxLen := by
  unfold cut40 maxLen
  rw [ByteArray.size_extract]; omega
theorem cut40_all {s : ByteArray} (h : s.size ≤ 40) : cut40 s = s := by
  unfold cut40
  rw [Nat.min_eq_left h]
  exact ByteArray.extract_zero_size
theorem run_cut_40 (s : ByteArray) (h : 40 ≤ s.size) (w : World) : (Instr.slice 9 (.string s) none (some (.int .i64 40)) none).run Try.prog w = .ok (.string (cut40 s)) w := by
  have h1 := run_slice_string_h (P := Try.prog) w 9 s Try.underlying9 .i64 40 (by omega) (by omega)
  rw [h1]
  unfold cut40
  rw [Nat.min_eq_right h]; rfl
def Ac.short (a : Ac) : Ac := ⟨a.k, cut40 a.nm, a.am, a.fr, a.ex, a.at_, a.mo⟩
set_option maxHeartbeats 1000000 in
theorem short_any {a : Ac} {w : World} (hs : a.nm.size ≤ maxLen) :
    Calls Try.prog 40 #[.agg #[.int .i64 a.k, .string a.nm, .int .i64 a.am, .int .i64 a.fr, .int .i64 a.ex, .int .i64 a.at_, .int .i64 a.mo]] w fun e w' => e = .returned (.agg #[.int .i64 a.k, .string (cut40 a.nm), .int .i64 a.am, .int .i64 a.fr, .int .i64 a.ex, .int .i64 a.at_, .int .i64 a.mo]) ∧ Below w.heap.size w w' := by
  unfold maxLen at hs
  have hB := ((Below.refl w.heap.size w).alloc (Nat.le_refl _) (.cells #[.int .i64 a.k, .string (cut40 a.nm), .int .i64 a.am, .int .i64 a.fr, .int .i64 a.ex, .int .i64 a.at_, .int .i64 a.mo] 70)).alloc (by simp) (.cells #[.int .i64 a.k, .string (cut40 a.nm), .int .i64 a.am, .int .i64 a.fr, .int .i64 a.ex, .int .i64 a.at_, .int .i64 a.mo] 70)
  have HB := Lib.hid hB
  clear hB
  by_cases h40 : a.nm.size ≤ 40
  · have hcut := cut40_all (s := a.nm) (by omega)
    have HC := Lib.hid hcut
    rw [hcut] at HB ⊢
    clear hcut
    have hex : a.nm.extract 0 a.nm.size = a.nm := ByteArray.extract_zero_size
    go_enter Try.func40, Try.ntmps40
    go_wp2
    exact bodyPost_ret (v := .agg #[.int .i64 a.k, .string a.nm, .int .i64 a.am, .int .i64 a.fr, .int .i64 a.ex, .int .i64 a.at_, .int .i64 a.mo]) (by simp [results, Try.results40, go_sem]) rfl ⟨rfl, HB.out⟩
  · have h41 : 40 < a.nm.size := by omega
    have hcut : cut40 a.nm = a.nm.extract 0 40 := by unfold cut40; rw [Nat.min_eq_right (by omega)]
    rw [hcut] at HB ⊢
    clear h40 hcut
    go_enter Try.func40, Try.ntmps40
    go_wp2
    exact bodyPost_ret (v := .agg #[.int .i64 a.k, .string (a.nm.extract 0 40), .int .i64 a.am, .int .i64 a.fr, .int .i64 a.ex, .int .i64 a.at_, .int .i64 a.mo]) (by simp [results, Try.results40, go_sem]) rfl ⟨rfl, HB.out⟩

set_option maxHeartbeats 1000000 in
theorem claimNil_walk (W : World) {a : Ac} (hs : a.nm.size ≤ maxLen) :
    Calls Try.prog 17 #[.agg (acC a)] W fun e w' => e = .returned (.bool true) ∧ Below W.heap.size W w' := by
  unfold acC
  have hB := (Below.refl W.heap.size W).alloc (Nat.le_refl _) (.cells #[.int .i64 a.k, .string a.nm, .int .i64 a.am, .int .i64 a.fr, .int .i64 a.ex, .int .i64 a.at_, .int .i64 a.mo] 70)
  have HB := Lib.hid hB
  clear hB
  go_enter Try.func17, Try.ntmps17
  go_wp2_with fail
  refine check_nil.mono ?_
  rintro e w1 ⟨rfl, rfl⟩
  go_wp2_with fail
  refine claim_nil.mono ?_
  rintro e w1 ⟨rfl, rfl⟩
  go_wp2_with fail
  refine sum_nil.mono ?_
  rintro e w1 ⟨rfl, rfl⟩
  go_wp2_with fail
  refine add_nil.mono ?_
  rintro e w1 ⟨rfl, rfl⟩
  go_wp2_with fail
  refine expire_nil.mono ?_
  rintro e w1 ⟨rfl, rfl⟩
  go_wp2_with fail
  refine copen_nil.mono ?_
  rintro e w1 ⟨rfl, rfl⟩
  go_wp2_with fail
  refine (works44 _).mono ?_
  rintro e w9 ⟨rfl, hb9⟩
  have HB2 := Lib.hid (Below.on HB.out hb9)
  clear hb9
  go_wp2
  go_ret
  exact ⟨rfl, HB2.out⟩
end Go.Proofs.Ytpalmlcepppifaa
