/- The reference's Propose where it appends. -/
import Derived.Test.YtdbpbpnbcjbchaaRepRef7
import Derived.Deep.RegionHeld3
set_option linter.unusedVariables false
namespace Go.Proofs.Ytdbpbpnbcjbchaa
open Go.RowKit
/-- An append of a whole slice onto a fresh row without elements. -/
theorem step_append_new {P : Program} {w : World} {ops : Array Oper} {o : Oper} {a : Act} {K : Act → World → Prop} {Q : Exit → Act → World → Prop} {E : Prop} (hgd : o.guard = none) (s x : Operand) (t : TypeId)
    (ho : o.op = .call { callee := .builtin .append, args := #[s, x], argTypes := #[t, t] })
    (base : Nat) (e : TypeId) (i : TypeInfo) (z : Value) (size bytes : Nat) (ht : P.underlying t = some (.slice e)) (hi : P.info? e = some i) (hz : i.zero = some z)
    (hsize : i.size = size) (hby : i.bytes = bytes) (hzs : z.cells.size = size) (hsz : 0 < size) (v : Value) (hs : a.eval s = v) (hown : w.ownsRow base e size v 0 [])
    (A : Option Addr) (m c : Nat) (G : Nat → Value) (hx : a.eval x = .slice A m c) (hA : Cells w A (m * size) G) (h1 : ∀ j, (G j).oneCell' = true) (h63 : m ≤ maxLen) (hbytes : m * bytes ≤ 140737488355328) (hbase : base ≤ w.heap.size)
    (h : ∀ D c' w', w'.ownsRow base e size (.slice D m c') m (row (m * size) G) → w.grownBy w' v.ownBlock → K (a.put o.dst (.slice D m c')) w') :
    if Region.wanted o (yielded ops a.tmps) = true then Oper.wp P o a w K Q else E := by
  refine step_append_any hgd s x t ho base e i z size bytes ht hi hz hsize hby hzs hsz v 0 [] hs hown A m c G hx hA h1 (by omega) (by rw [Nat.zero_add]; exact hbytes) hbase fun D c' w' h2 h3 => ?_
  rw [Nat.zero_add, List.nil_append] at h2
  rw [Nat.zero_add]
  exact h D c' w' h2 h3
namespace Rp
section
variable {B : Nat} {w : World} {h b n : Nat} {s : St} {lv : Nat → Value} {cv : Value}
theorem _root_.Go.Proofs.Ytdbpbpnbcjbchaa.Cells.fresh2 (w : World) (x y : Value) (t : TypeId) : Cells (w.alloc (.cells #[x, y] t)) (some ⟨w.heap.size, 0, none⟩) (1 * 2) (fun j => if j = 0 then x else y) := fun _ =>
  ⟨w.heap.size, 0, rfl, by simp, fun j hj => by
    have h : j = 0 ∨ j = 1 := by omega
    rw [World.cell?_alloc_at _ _ _ _ rfl]
    rcases h with rfl | rfl <;> rfl⟩
theorem _root_.Go.Proofs.Ytdbpbpnbcjbchaa.Cells.far {w w' : World} {g m : Nat} {r : Option Nat} {G : Nat → Value} (h : Cells w (some ⟨g, 0, none⟩) m G) (hg : w.grownBy w' r) (hne : some g ≠ r) : Cells w' (some ⟨g, 0, none⟩) m G := fun h0 => by
  obtain ⟨b, off, e, hlt, hc⟩ := h h0
  injection e with e
  injection e with e1 e2
  subst e1 e2
  exact ⟨g, 0, rfl, Nat.lt_of_lt_of_le hlt hg.size, fun j hj => (hg.cell_far _ hlt hne).trans (hc j hj)⟩
theorem bl_al {B : Nat} {w w' : World} (h : Below B w w') (hB : B ≤ w.heap.size) (o : Go.Obj) : Below B w (w'.alloc o) := h.alloc (Nat.le_trans hB h.size) o
/-- A world behind w, or one store into block b behind that. -/
def Fx (w w' : World) (b k : Nat) : Prop := ∃ w6, Below w.heap.size w w6 ∧ (w' = w6 ∨ ∃ v, w' = w6.setCell ⟨b, k, none⟩ v)
theorem Fx.of {w w' : World} {b k : Nat} (h : Below w.heap.size w w') : Fx w w' b k := ⟨w', h, .inl rfl⟩
theorem Fx.set {w w' : World} {b k : Nat} (h : Below w.heap.size w w') (v : Value) : Fx w (w'.setCell ⟨b, k, none⟩ v) b k := ⟨w', h, .inr ⟨v, rfl⟩⟩
theorem Fx.cell {w w' : World} {b k : Nat} (f : Fx w w' b k) {p : Addr} (hp : p.block < w.heap.size) (hb : p.block ≠ b) {v : Value} (h : w.cell? p = some v) : w'.cell? p = some v := by
  obtain ⟨w6, h6, rfl | ⟨u, rfl⟩⟩ := f
  · exact (h6.cell hp).trans h
  · exact (World.cell?_setCell_other w6 ⟨b, k, none⟩ p u (fun e => hb (by rw [← e]))).trans ((h6.cell hp).trans h)
/-- Behind the appends of Propose: the log laid anew, the copy of the old one at its place. -/
def Pr (B : Nat) (w : World) (h b n : Nat) (s : St) (A : Option Addr) (L cp : Nat) (wx : World) : Prop :=
  (∃ lv' cv', Rf B wx h b n s lv' cv') ∧ RDid B w wx h b n s ∧ wx.cell? ⟨w.heap.size, 4, none⟩ = some (.slice A L cp) ∧ w.heap.size ≠ h
theorem Pr.of {B : Nat} {w w2 w6 : World} {h b n : Nat} {s : St} {lv : Nat → Value} {cv : Value} {A D6 : Option Addr} {L cp c6 i : Nat} {t : ByteArray} (c : Rf B w h b n s lv cv) (hi : i < n) (hb2 : Below w.heap.size w w2)
    (hqw : w.heap.size < w2.heap.size) (l4 : w2.cell? ⟨w.heap.size, 4, none⟩ = some (.slice A L cp)) (hL : L = (s.nd i).log.length) (hL2 : (L : Int) < 1024) (hb6 : Below w2.heap.size w2 w6)
    (hown6 : w6.ownsRow w2.heap.size 73 2 (.slice D6 (L + 1) c6) (L + 1) (row (L * 2) (Ent (s.nd i).log) ++ row (1 * 2) (fun j => if j = 0 then .int .i64 ((s.nd i).ep : Int) else .string t))) :
    Hid (Pr B w h b n (pushed s i t) A L cp (w6.setCell ⟨b, i * 5 + 4, none⟩ (.slice D6 (L + 1) c6))) := by
  have c2 := c.keep hb2
  have hhw := c.grp.lt
  have hbw := c.nds.lt
  have hl1 : ((s.nd i).log ++ [((s.nd i).ep, t)]).length = L + 1 := by rw [List.length_append, List.length_singleton, ← hL]
  have ho6 : w6.ownsRow w2.heap.size 73 2 (.slice D6 (L + 1) c6) ((s.nd i).log ++ [((s.nd i).ep, t)]).length (row (((s.nd i).log ++ [((s.nd i).ep, t)]).length * 2) (Ent ((s.nd i).log ++ [((s.nd i).ep, t)]))) := by
    rw [Ent_push, hl1, ← hL]
    exact hown6
  have hBz : B ≤ w2.heap.size := by have := c2.hB; have := c2.grp.lt; omega
  have hR := c2.relog hi hb6 (own_base ho6 hBz) (by rw [hl1]; omega)
  have hD := (c2.kept hb6).trans ((c2.keep hb6).node hR)
  have l6 := (hb6.cell (p := ⟨w.heap.size, 4, none⟩) hqw).trans l4
  have l6s := (World.cell?_setCell_other w6 ⟨b, i * 5 + 4, none⟩ ⟨w.heap.size, 4, none⟩ (.slice D6 (L + 1) c6) (by simp <;> omega)).trans l6
  exact Lib.hid ⟨⟨_, _, hR⟩, (c.kept hb2).trans hD, l6s, by omega⟩
set_option maxHeartbeats 4000000 in
set_option maxRecDepth 100000 in
theorem rpropose_ok (c : Rf B w h b n s lv cv) {i : Nat} {t : ByteArray} (hi : i < n) (hl : ldr (s.nd i) = true) (ht : t.size ≤ 20) (hL : (s.nd i).log.length < 1024) :
    Calls Try.prog 37 #[.pointer (some ⟨h, 0, none⟩), .int .i64 (i : Int), .string t] w fun e w' => e = .returned (.tuple #[.int .i64 (((s.nd i).log.length + 1 : Nat) : Int), .int .i64 0]) ∧ RDid B w w' h b n (upd n (pushed s i t) i) := by
  obtain ⟨i0, hq, hz0, hz1, hz2⟩ := info_parts Try.infoEntR
  have hn7 := c.n7
  obtain ⟨g0, _⟩ := c.g0
  obtain ⟨p0, p1, p2, p3, p4⟩ := c.at_ hi
  obtain ⟨A, cp, hlv, hcp, hA⟩ := c.log hi
  have hhw := c.grp.lt
  have hbw := c.nds.lt
  have hhb : h ≠ b := blk_ne c.grp c.nds (by decide)
  rw [hlv] at p4
  have HC := Lib.hid c
  have hal := (Below.refl w.heap.size w).alloc (Nat.le_refl _) (.cells #[.bool (s.nd i).down, .bool (s.nd i).cut, .int .i64 ((s.nd i).ep : Int), .int .i64 ((s.nd i).led : Int), .slice A (s.nd i).log.length cp] 71)
  have HAL := Lib.hid hal
  have HLD := Lib.hid (Blk.new w 71 #[.bool (s.nd i).down, .bool (s.nd i).cut, .int .i64 ((s.nd i).ep : Int), .int .i64 ((s.nd i).led : Int), .slice A (s.nd i).log.length cp])
  have HCL := Lib.hid fun (w' : World) => rleads_any w' (s.nd i) (.slice A (s.nd i).log.length cp)
  rw [hl] at HCL
  have HA := Lib.hid hA
  obtain ⟨L, hLL⟩ : ∃ L, L = (s.nd i).log.length := ⟨_, rfl⟩
  rw [← hLL] at p4 hcp hL HLD HAL HA HCL
  have HLL := Lib.hid hLL
  clear c hlv hA hal hl hLL
  go_enter Try.func37, Try.ntmps37
  go_wp2_with fail
  refine (rhas_yes HC.out hi).mono ?_
  rintro e w1 ⟨rfl, rfl⟩
  go_wp2_with fail
  refine (HCL.out _).mono ?_
  rintro e w2 ⟨rfl, hb2⟩
  have HD2 := Lib.hid (Below.on HAL.out hb2)
  have hld2 := HLD.out.keep hb2
  have HC2 := Lib.hid (HC.out.keep HD2.out)
  have HA2 := Lib.hid (HA.out.below HD2.out)
  obtain ⟨q0, hq0⟩ : ∃ q0, q0 = w.heap.size := ⟨_, rfl⟩
  rw [← hq0] at hld2
  have l2 : w2.cell? ⟨w.heap.size, 2, none⟩ = some (.int .i64 ((s.nd i).ep : Int)) := by rw [← hq0]; exact hld2.cell 2
  have l4 : w2.cell? ⟨w.heap.size, 4, none⟩ = some (.slice A L cp) := by rw [← hq0]; exact hld2.cell 4
  have hqw : w.heap.size < w2.heap.size := by rw [← hq0]; exact hld2.lt
  have k0 := HC2.out.g0.1
  have hh2 := HC2.out.grp.lt
  have hb3 := HC2.out.nds.lt
  have ht2 : (t.size : Int) ≤ 32768 := by omega
  have hL2 : (L : Int) < 1024 := by omega
  have e4 := (HC2.out.at_ hi).2.2.2.2
  have f4 := (HC2.out.nds.at_ (k := i * 5 + 4) (by omega)).2
  clear hb2 hld2 hq0 p0 p1 p2 p3 p4 g0
  have HM : Hid (((w2.drewN 1).alloc (.cells #[] 73)).ownsRow w2.heap.size 73 2 (.slice (some ⟨w2.heap.size, 0, none⟩) 0 0) 0 []) :=
    World.ownsRow_made (e := 73) (size := 2) (base := w2.heap.size) (w2.drewN 1) #[] 0 (Nat.le_refl _) (by unfold maxLen; omega) (by rfl)
  have HBA : Hid (Below w2.heap.size w2 ((w2.drewN 1).alloc (.cells #[] 73))) := (below_drewN (Below.refl w2.heap.size w2) 1).alloc (Nat.le_refl _) _
  have HA3 := Lib.hid (HA2.out.below HBA.out)
  have HEN := Lib.hid (Ent_one (s.nd i).log)
  have hbw2 : b < w2.heap.size := hb3
  have HBB : Hid (Below w2.heap.size w2 (((w2.drewN 1).alloc (.cells #[] 73)).alloc (.cells #[.int .i64 ((s.nd i).ep : Int), .string t] 73))) := HBA.out.alloc (by simp) _
  have HA4 := Lib.hid (HA2.out.below HBB.out)
  have HNE : Hid (Cells (((w2.drewN 1).alloc (.cells #[] 73)).alloc (.cells #[.int .i64 ((s.nd i).ep : Int), .string t] 73)) (some ⟨w2.heap.size + 1, 0, none⟩) (1 * 2) (fun j => if j = 0 then .int .i64 ((s.nd i).ep : Int) else .string t)) := by
    have := Cells.fresh2 ((w2.drewN 1).alloc (.cells #[] 73)) (.int .i64 ((s.nd i).ep : Int)) (.string t) 73
    rw [show ((w2.drewN 1).alloc (.cells #[] 73)).heap.size = w2.heap.size + 1 by simp] at this
    exact this
  have HM3 : Hid ((((w2.drewN 1).alloc (.cells #[.int .i64 ((s.nd i).ep : Int), .string t] 73)).alloc (.cells #[] 73)).ownsRow w2.heap.size 73 2 (.slice (some ⟨w2.heap.size + 1, 0, none⟩) 0 0) 0 []) := by
    have := World.ownsRow_made (e := 73) (size := 2) (base := w2.heap.size) ((w2.drewN 1).alloc (.cells #[.int .i64 ((s.nd i).ep : Int), .string t] 73)) #[] 0 (by simp) (by unfold maxLen; omega) (by rfl)
    rw [show ((w2.drewN 1).alloc (.cells #[.int .i64 ((s.nd i).ep : Int), .string t] 73)).heap.size = w2.heap.size + 1 by simp] at this
    exact this
  have HBC0 : Below w2.heap.size w2 ((w2.drewN 1).alloc (.cells #[.int .i64 ((s.nd i).ep : Int), .string t] 73)) := (below_drewN (Below.refl w2.heap.size w2) 1).alloc (Nat.le_refl _) _
  have HBC : Hid (Below w2.heap.size w2 (((w2.drewN 1).alloc (.cells #[.int .i64 ((s.nd i).ep : Int), .string t] 73)).alloc (.cells #[] 73))) := HBC0.alloc (by simp) _
  have HA5 := Lib.hid (HA2.out.below HBC.out)
  have HNF : Hid (Cells (((w2.drewN 1).alloc (.cells #[.int .i64 ((s.nd i).ep : Int), .string t] 73)).alloc (.cells #[] 73)) (some ⟨w2.heap.size, 0, none⟩) (1 * 2) (fun j => if j = 0 then .int .i64 ((s.nd i).ep : Int) else .string t)) :=
    Cells.below (Cells.fresh2 (w2.drewN 1) (.int .i64 ((s.nd i).ep : Int)) (.string t) 73) ((Below.refl _ _).alloc (Nat.le_refl _) _)
  clear HBC0
  have HALL : Hid (∀ w', Fx w2 w' b (i * 5 + 4) → w'.cell? ⟨h, 0, none⟩ = some (.slice (some ⟨b, 0, none⟩) n n) ∧ w'.cell? ⟨w.heap.size, 2, none⟩ = some (.int .i64 ((s.nd i).ep : Int)) ∧ w'.cell? ⟨w.heap.size, 4, none⟩ = some (.slice A L cp) ∧ Fx w2 w' b (i * 5 + 4)) := fun w' hw => ⟨hw.cell (p := ⟨h, 0, none⟩) hh2 hhb k0, hw.cell (p := ⟨w.heap.size, 2, none⟩) hqw (by simp; omega) l2, hw.cell (p := ⟨w.heap.size, 4, none⟩) hqw (by simp; omega) l4, hw⟩
  go_upto_region 8 with (fail)
  go_cut [1] (fun s1 wx => s1 = .int .i64 (i : Int) ∧ Hid (Pr B w h b n (pushed s i t) A L cp wx))
  case first =>
    go_region_held3 (fun w' => w'.cell? ⟨h, 0, none⟩ = some (.slice (some ⟨b, 0, none⟩) n n) ∧ w'.cell? ⟨w.heap.size, 2, none⟩ = some (.int .i64 ((s.nd i).ep : Int)) ∧ w'.cell? ⟨w.heap.size, 4, none⟩ = some (.slice A L cp) ∧ Fx w2 w' b (i * 5 + 4))
      ((refine HALL.out _ ?_; (first | refine Fx.set ?_ _ | refine Fx.of ?_); repeat' (first | exact (by assumption) | exact Below.refl _ _ | refine bl_al ?_ (Nat.le_refl _) _ | refine Below.drew ?_)))
      (first
        | (refine step_append_new (by rfl) _ _ _ (by rfl) w2.heap.size 73 i0 _ 2 24 Try.underlying69 hq hz0 hz1 hz2 rfl (by omega) _ (by rfl) HM.out A L cp (Ent (s.nd i).log) (by rfl) HA3.out HEN.out (by unfold maxLen; omega) (by omega) HBA.out.size ?_; intro D5 c5 w5 hown5 hgrow5; have hb5 : Below w2.heap.size w2 w5 := own_below HBA.out HM.out HBA.out.size hgrow5)
        | (refine step_append_any (by rfl) _ _ _ (by rfl) w2.heap.size 73 i0 _ 2 24 Try.underlying69 hq hz0 hz1 hz2 rfl (by omega) _ L (row (L * 2) (Ent (s.nd i).log)) (by rfl) (hown5.alloc _) (some ⟨w5.heap.size, 0, none⟩) 1 1 (fun j => if j = 0 then .int .i64 ((s.nd i).ep : Int) else .string t) (by rfl) (Cells.fresh2 w5 _ _ _) (fun j => by split <;> rfl) (by unfold maxLen; omega) (by omega) (hb5.alloc hb5.size _).size ?_; intro D6 c6 w6 hown6 hgrow6; have hb6 : Below w2.heap.size w2 w6 := own_below (hb5.alloc hb5.size _) (hown5.alloc _) (hb5.alloc hb5.size _).size hgrow6; have y1 := (hb6.cell (p := ⟨b, i * 5 + 4, none⟩) hbw2).trans e4; have y2 := (hb6.frozen (p := ⟨b, i * 5 + 4, none⟩) hbw2).trans f4)
        | (refine step_append_new (by rfl) _ _ _ (by rfl) w2.heap.size 73 i0 _ 2 24 Try.underlying69 hq hz0 hz1 hz2 rfl (by omega) _ (by rfl) (HM.out.alloc _) A L cp (Ent (s.nd i).log) (by rfl) HA4.out HEN.out (by unfold maxLen; omega) (by omega) HBB.out.size ?_; intro D5 c5 w5 hown5 hgrow5; have hb5 : Below w2.heap.size w2 w5 := own_below HBB.out (HM.out.alloc _) HBB.out.size hgrow5; have hcn := Cells.far HNE.out hgrow5 (fun e => by have h9 : some (w2.heap.size + 1) = some w2.heap.size := e; injection h9 with h9; omega))
        | (refine step_append_any (by rfl) _ _ _ (by rfl) w2.heap.size 73 i0 _ 2 24 Try.underlying69 hq hz0 hz1 hz2 rfl (by omega) _ L (row (L * 2) (Ent (s.nd i).log)) (by rfl) hown5 (some ⟨w2.heap.size + 1, 0, none⟩) 1 1 (fun j => if j = 0 then .int .i64 ((s.nd i).ep : Int) else .string t) (by rfl) hcn (fun j => by split <;> rfl) (by unfold maxLen; omega) (by omega) hb5.size ?_; intro D6 c6 w6 hown6 hgrow6; have hb6 : Below w2.heap.size w2 w6 := own_below hb5 hown5 hb5.size hgrow6; have y1 := (hb6.cell (p := ⟨b, i * 5 + 4, none⟩) hbw2).trans e4; have y2 := (hb6.frozen (p := ⟨b, i * 5 + 4, none⟩) hbw2).trans f4)
        | (refine step_append_new (by rfl) _ _ _ (by rfl) w2.heap.size 73 i0 _ 2 24 Try.underlying69 hq hz0 hz1 hz2 rfl (by omega) _ (by rfl) HM3.out A L cp (Ent (s.nd i).log) (by rfl) HA5.out HEN.out (by unfold maxLen; omega) (by omega) HBC.out.size ?_; intro D5 c5 w5 hown5 hgrow5; have hb5 : Below w2.heap.size w2 w5 := own_below HBC.out HM3.out HBC.out.size hgrow5; have hcm := Cells.far HNF.out hgrow5 (fun e => by have h9 : some w2.heap.size = some (w2.heap.size + 1) := e; injection h9 with h9; omega))
        | (refine step_append_any (by rfl) _ _ _ (by rfl) w2.heap.size 73 i0 _ 2 24 Try.underlying69 hq hz0 hz1 hz2 rfl (by omega) _ L (row (L * 2) (Ent (s.nd i).log)) (by rfl) hown5 (some ⟨w2.heap.size, 0, none⟩) 1 1 (fun j => if j = 0 then .int .i64 ((s.nd i).ep : Int) else .string t) (by rfl) hcm (fun j => by split <;> rfl) (by unfold maxLen; omega) (by omega) hb5.size ?_; intro D6 c6 w6 hown6 hgrow6; have hb6 : Below w2.heap.size w2 w6 := own_below hb5 hown5 hb5.size hgrow6; have y1 := (hb6.cell (p := ⟨b, i * 5 + 4, none⟩) hbw2).trans e4; have y2 := (hb6.frozen (p := ⟨b, i * 5 + 4, none⟩) hbw2).trans f4)
        | fail)
    all_goals
      have HP := Pr.of HC.out hi HD2.out hqw l4 HLL.out hL2 hb6 hown6
      clear hown5 hgrow5 hown6 hgrow6
      go_wp2_with fail
      go_meet
      case rel => exact ⟨rfl, HP⟩
  case rest =>
    obtain ⟨rfl, HP⟩ := hcut
    obtain ⟨⟨lv', cv', HR⟩, hDD, l6, zh⟩ := HP.out
    have HR := Lib.hid HR
    have HDD := Lib.hid hDD
    have Hl6 := Lib.hid l6
    clear hDD HP l6
    clear l2 l4 e4 f4 k0 HM HBA HA3 HEN HBB HA4 HNE HM3 HBC HA5 HNF HALL
    go_wp2_with fail
    refine (rupdate_any HR.out hi).mono ?_
    rintro e7 w7 ⟨rfl, hd7, hg7⟩
    have HF := Lib.hid (HDD.out.trans hd7)
    have hwq : IntKind.i64.wrap ((L : Int) + 1) = (L : Int) + 1 := IntWalk.i64_in _ (by omega)
    have l7 : w7.cell? ⟨w.heap.size, 4, none⟩ = some (.slice A L cp) := hg7.cell Hl6.out (fun e => by injection e with e; exact zh e)
    clear hg7
    go_wp2
    go_ret2
    exact ⟨by rw [← HLL.out]; rfl, HF.out⟩
end
end Rp
end Go.Proofs.Ytdbpbpnbcjbchaa
