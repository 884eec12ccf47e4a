/- The walk of Check of the claims. -/
import Derived.Test.YtpalmlcepppifaaClmRead
set_option linter.unusedVariables false
namespace Go.Proofs.Ytpalmlcepppifaa
open Go.RowKit Go.Maps Go.ChangeShapes Go.WideElems Go.WideMaps

namespace Cm
/-- Can prize i be claimed? -/
def can (F E S : Nat → Int) (at_ : Int) (i : Nat) : Bool := decide (S i = 0) && decide (F i ≤ at_) && decide (at_ ≤ E i)
def early (F S : Nat → Int) (at_ : Int) (i : Nat) : Bool := decide (S i = 0) && decide (at_ < F i)
def late (S : Nat → Int) (i : Nat) : Bool := decide (S i = 0) || decide (S i = 2)
/-- The sum of the prizes that can be claimed. -/
def lsum (p : Nat → Bool) (A : Nat → Int) (l : List Nat) : Int := (l.map fun i => if p i then A i else 0).sum
theorem lsum_snoc (p : Nat → Bool) (A : Nat → Int) (l : List Nat) (m : Nat) : lsum p A (l ++ [m]) = lsum p A l + if p m then A m else 0 := by
  unfold lsum; simp
theorem lsum_bd {p : Nat → Bool} {A : Nat → Int} : ∀ {l : List Nat}, (∀ i ∈ l, 1 ≤ A i ∧ A i ≤ 1000000000000) → 0 ≤ lsum p A l ∧ lsum p A l ≤ l.length * 1000000000000 := by
  intro l
  induction l with
  | nil => intro _; simp [lsum]
  | cons x l ih =>
    intro h
    have h1 := ih (fun i hi => h i (List.mem_cons_of_mem _ hi))
    have h2 := h x (List.mem_cons_self ..)
    unfold lsum at h1 ⊢
    simp only [List.map_cons, List.sum_cons, List.length_cons]
    split <;> omega
theorem any_snoc (p : Nat → Bool) (l : List Nat) (m : Nat) : (l ++ [m]).any p = (l.any p || p m) := by simp
/-- The error of Check. -/
def ckE (A F E S : Nat → Int) (at_ most : Int) (l : List Nat) : Int :=
  if l = [] then 5 else
  if l.any (can F E S at_) = false then (if l.any (early F S at_) = true then 8 else if l.any (late S) = true then 16 else 17) else
  if 1000000000000 < lsum (can F E S at_) A l then 9 else
  if 0 < most ∧ most < lsum (can F E S at_) A l then 31 else 0
def ckV (A F E S : Nat → Int) (at_ most : Int) (l : List Nat) : Int := if ckE A F E S at_ most l = 0 then lsum (can F E S at_) A l else 0
/-- Behind the first j prizes of a ticket. -/
structure Acc (A F E S : Nat → Int) (at_ : Int) (l : List Nat) (u : Int) (f e t : Bool) : Prop where
  su : lsum (can F E S at_) A l = u
  fo : l.any (can F E S at_) = f
  ea : l.any (early F S at_) = e
  la : l.any (late S) = t
theorem Acc.next {A F E S : Nat → Int} {at_ : Int} {l : List Nat} {u : Int} {f e t : Bool} (h : Acc A F E S at_ l u f e t) (m : Nat) {b1 b2 b3 : Bool} (h1 : can F E S at_ m = b1) (h2 : early F S at_ m = b2) (h3 : late S m = b3) :
    Acc A F E S at_ (l ++ [m]) (u + if b1 then A m else 0) (f || b1) (e || b2) (t || b3) :=
  ⟨by rw [lsum_snoc, h.su, h1], by rw [any_snoc, h.fo, h1], by rw [any_snoc, h.ea, h2], by rw [any_snoc, h.la, h3]⟩
end Cm

/-- A slice that owns numbers, read cell by cell. -/
theorem ints_cells {w : World} {base : Nat} {v : Value} {l : List Nat} (ho : w.ownsInts base 3 .i64 v (zints l)) : ∃ Aq cq, v = .slice Aq l.length cq ∧ ∀ j (hj : j < l.length), ∃ b, Aq = some ⟨b, 0, none⟩ ∧ b < w.heap.size ∧ w.cell? ⟨b, j, none⟩ = some (.int .i64 (l[j] : Nat)) := by
  have hl : (zints l).length = l.length := by simp [zints]
  have h1 := ho.1
  rw [hl] at h1
  obtain ⟨Aq, cq, e, _⟩ := own_slice h1
  refine ⟨Aq, cq, e, fun j hj => ?_⟩
  obtain ⟨g, cap, hv, _, hlt⟩ := h1.form (by omega)
  rw [e] at hv
  injection hv with hA hn hc
  subst hA
  refine ⟨g, rfl, hlt, ?_⟩
  have := h1.cells (g := g) (by rw [e]; rfl) j (.int .i64 (l[j] : Nat)) (by simp [zints, hj])
  unfold Addr.add at this
  by_cases hz : j = 0
  · subst hz; simpa using this
  · rw [if_neg hz] at this; simpa using this
theorem take_next {l : List Nat} {j : Nat} (hj : j < l.length) : l.take (j + 1) = l.take j ++ [l[j]] := by
  rw [List.take_succ_eq_append_getElem hj]

set_option maxHeartbeats 4000000 in
set_option maxRecDepth 100000 in
theorem check_any {B : Nat} {w : World} {h n : Nat} {N : Nat → ByteArray} {A F E S : Nat → Int} (c : Claims B w h n N A F E S) {s : ByteArray} (hs : s.size ≤ maxLen) {at_ most : Int} :
    Calls Try.prog 22 #[.pointer (some ⟨h, 0, none⟩), .string s, .int .i64 at_, .int .i64 most] w fun e w' => e = .returned (.tuple #[.int .i64 (Cm.ckV A F E S at_ most (idx N s n)), .int .i64 (Cm.ckE A F E S at_ most (idx N s n))]) ∧ Below w.heap.size w w' := by
  obtain ⟨pv, b1, b2, D, O, c⟩ := c
  have hn8 := c.n8
  have hst := c.st
  obtain ⟨v, zs, hlook, hat, ho, hzl, _⟩ := look_all c.grp (by unfold maxLen; omega) hs
  rw [c.hD s hs] at hat
  have hzs := zs_eq ho hat.symm
  subst hzs
  obtain ⟨l, hl⟩ : ∃ l, l = idx N s n := ⟨_, rfl⟩
  have hlt : ∀ i ∈ l, i < n := fun i hi => idx_lt (by rw [← hl]; exact hi)
  have hlen : l.length ≤ n := by rw [hl]; exact idx_len N s n
  rw [← hl] at ho ⊢
  obtain ⟨Aq, cq, hv, hq⟩ := ints_cells ho
  subst hv
  have L0 := hlook w rfl
  obtain ⟨pA, pc, hpv, _⟩ := own_slice c.own
  subst hpv
  have hP := Cells.of_own c.own
  have q0 := c.blk.cell 0
  have q1 := c.blk.cell 1
  simp at q0 q1
  have hhlt := c.blk.lt
  have HQ := Lib.hid hq
  have HP := Lib.hid hP
  have HST := Lib.hid hst
  have HLT := Lib.hid hlt
  have HL := Lib.hid hl
  clear hat ho hzl hlook c hq hP hst hlt hl
  by_cases hl0 : l = []
  · subst hl0
    have he : Cm.ckE A F E S at_ most [] = 5 := rfl
    have hv : Cm.ckV A F E S at_ most [] = 0 := rfl
    rw [he, hv]
    clear he hv
    go_enter Try.func22, Try.ntmps22
    go_wp2
    go_ret2
    exact ⟨rfl, Below.refl _ _⟩
  · have hlp : 0 < l.length := by
      cases l with
      | nil => exact absurd rfl hl0
      | cons x l => simp
    have HL0 := Lib.hid hl0
    clear hl0
    have hd0 : ((l.length : Int) == 0) = false := by simp; intro e; rw [e] at hlp; simp at hlp
    go_enter Try.func22, Try.ntmps22
    go_wp2
    go_loopw [11, 12, 13, 14, 31] (fun v11 v12 v13 v14 i wr => ∃ (j : Nat) (u : Int) (f e t : Bool), j ≤ l.length ∧ i = .int .i64 j ∧ v11 = .int .i64 u ∧ v12 = .bool f ∧ v13 = .bool e ∧ v14 = .bool t ∧ Cm.Acc A F E S at_ (l.take j) u f e t ∧ Below w.heap.size w wr) (fun _ _ _ _ i _ => l.length - (intOf i).toNat)
    case atStart => exact ⟨0, 0, false, false, false, Nat.zero_le _, rfl, rfl, rfl, rfl, rfl, ⟨rfl, rfl, rfl, rfl⟩, Below.refl _ _⟩
    case round =>
      obtain ⟨j, u, f, e, t, hj, rfl, rfl, rfl, rfl, rfl, hacc, hbw⟩ := hrel
      have HACC := Lib.hid hacc
      have HBW := Lib.hid hbw
      clear hacc
      by_cases hjl : j < l.length
      · obtain ⟨b, rfl, hblt, hcq⟩ := HQ.out j hjl
        obtain ⟨m, hm⟩ : ∃ m, m = l[j] := ⟨_, rfl⟩
        have hmn : m < n := HLT.out m (by rw [hm]; exact List.getElem_mem _)
        rw [← hm] at hcq
        have htk := take_next hjl
        rw [← hm] at htk
        have HTK := Lib.hid htk
        clear htk hm
        have hcq' : wr.cell? ⟨b, j, none⟩ = some (.int .i64 (m : Int)) := (hbw.cell (p := ⟨b, j, none⟩) hblt).trans hcq
        obtain ⟨bp, op, hpe, hplt, p0, p1, p2, p3⟩ := (HP.out.below hbw).four hmn
        subst hpe
        have r0 : wr.cell? ⟨h, 0, none⟩ = some (.slice (some ⟨bp, op, none⟩) n pc) := (hbw.cell (p := ⟨h, 0, none⟩) hhlt).trans q0
        have hhw : h < wr.heap.size := Nat.lt_of_lt_of_le hhlt hbw.size
        have hbd := Cm.lsum_bd (p := Cm.can F E S at_) (l := l.take j) (fun i hi => HST.out i (HLT.out i (List.mem_of_mem_take hi)))
        rw [HACC.out.su] at hbd
        obtain ⟨u0, u1⟩ := hbd
        have htl : (l.take j).length ≤ 8192 := by rw [List.length_take]; omega
        have u2 : u ≤ 8192000000000000 := by omega
        obtain ⟨am0, am1⟩ := HST.out m hmn
        clear u1 htl
        have HBX := Lib.hid (hbw.alloc hbw.size (.cells #[.int .i64 (A m), .int .i64 (F m), .int .i64 (E m), .int .i64 (S m)] 80))
        clear hbw
        by_cases hS0 : S m = 0
        · have d0 : (S m == 0) = true := by simp [hS0]
          by_cases hF : F m ≤ at_
          · by_cases hE : at_ ≤ E m
            · have h1 : Cm.can F E S at_ m = true := by unfold Cm.can; simp [hS0, hF, hE]
              have h2 : Cm.early F S at_ m = false := by unfold Cm.early; simp; omega
              have h3 : Cm.late S m = true := by unfold Cm.late; simp [hS0]
              have hcb : (decide (S m = 0) && decide (F m ≤ at_) && decide (at_ ≤ E m)) = true := h1
              have HCB := Lib.hid hcb
              clear hcb hS0
              have HN := Lib.hid (HACC.out.next m h1 h2 h3)
              clear h1 h2 h3
              go_wp2_with fail
              refine claimable_any.mono ?_
              rintro e' w5 ⟨rfl, hb5⟩
              rw [HCB.out]
              have hsz5 := hb5.size
              have x0 : w5.cell? ⟨wr.heap.size, 0, none⟩ = some (.int .i64 (A m)) := by rw [hb5.cell (p := ⟨wr.heap.size, 0, none⟩) (by simp), World.cell?_alloc_at _ _ _ _ rfl]; rfl
              have x1 : w5.cell? ⟨wr.heap.size, 1, none⟩ = some (.int .i64 (F m)) := by rw [hb5.cell (p := ⟨wr.heap.size, 1, none⟩) (by simp), World.cell?_alloc_at _ _ _ _ rfl]; rfl
              have x3 : w5.cell? ⟨wr.heap.size, 3, none⟩ = some (.int .i64 (S m)) := by rw [hb5.cell (p := ⟨wr.heap.size, 3, none⟩) (by simp), World.cell?_alloc_at _ _ _ _ rfl]; rfl
              have HB5 := Lib.hid (Below.on HBX.out hb5)
              clear hb5 p0 p1 p2 p3
              go_wp2
              go_roundw
              case rel => exact ⟨j + 1, _, _, _, _, by omega, by go_num, rfl, rfl, rfl, rfl, by rw [HTK.out]; simpa using HN.out, HB5.out⟩
              case measure => simp [intOf] <;> omega
            · have h1 : Cm.can F E S at_ m = false := by unfold Cm.can; simp; omega
              have h2 : Cm.early F S at_ m = false := by unfold Cm.early; simp; omega
              have h3 : Cm.late S m = true := by unfold Cm.late; simp [hS0]
              have hcb : (decide (S m = 0) && decide (F m ≤ at_) && decide (at_ ≤ E m)) = false := h1
              have HCB := Lib.hid hcb
              clear hcb hS0
              have HN := Lib.hid (HACC.out.next m h1 h2 h3)
              clear h1 h2 h3
              go_wp2_with fail
              refine claimable_any.mono ?_
              rintro e' w5 ⟨rfl, hb5⟩
              rw [HCB.out]
              have hsz5 := hb5.size
              have x0 : w5.cell? ⟨wr.heap.size, 0, none⟩ = some (.int .i64 (A m)) := by rw [hb5.cell (p := ⟨wr.heap.size, 0, none⟩) (by simp), World.cell?_alloc_at _ _ _ _ rfl]; rfl
              have x1 : w5.cell? ⟨wr.heap.size, 1, none⟩ = some (.int .i64 (F m)) := by rw [hb5.cell (p := ⟨wr.heap.size, 1, none⟩) (by simp), World.cell?_alloc_at _ _ _ _ rfl]; rfl
              have x3 : w5.cell? ⟨wr.heap.size, 3, none⟩ = some (.int .i64 (S m)) := by rw [hb5.cell (p := ⟨wr.heap.size, 3, none⟩) (by simp), World.cell?_alloc_at _ _ _ _ rfl]; rfl
              have HB5 := Lib.hid (Below.on HBX.out hb5)
              clear hb5 p0 p1 p2 p3
              go_wp2
              go_roundw
              case rel => exact ⟨j + 1, _, _, _, _, by omega, by go_num, rfl, rfl, rfl, rfl, by rw [HTK.out]; simpa using HN.out, HB5.out⟩
              case measure => simp [intOf] <;> omega
          · have h1 : Cm.can F E S at_ m = false := by unfold Cm.can; simp; omega
            have h2 : Cm.early F S at_ m = true := by unfold Cm.early; simp [hS0]; omega
            have h3 : Cm.late S m = true := by unfold Cm.late; simp [hS0]
            have hcb : (decide (S m = 0) && decide (F m ≤ at_) && decide (at_ ≤ E m)) = false := h1
            have hF2 : at_ < F m := by omega
            have HCB := Lib.hid hcb
            clear hcb hS0 hF
            have HN := Lib.hid (HACC.out.next m h1 h2 h3)
            clear h1 h2 h3
            go_wp2_with fail
            refine claimable_any.mono ?_
            rintro e' w5 ⟨rfl, hb5⟩
            rw [HCB.out]
            have hsz5 := hb5.size
            have x0 : w5.cell? ⟨wr.heap.size, 0, none⟩ = some (.int .i64 (A m)) := by rw [hb5.cell (p := ⟨wr.heap.size, 0, none⟩) (by simp), World.cell?_alloc_at _ _ _ _ rfl]; rfl
            have x1 : w5.cell? ⟨wr.heap.size, 1, none⟩ = some (.int .i64 (F m)) := by rw [hb5.cell (p := ⟨wr.heap.size, 1, none⟩) (by simp), World.cell?_alloc_at _ _ _ _ rfl]; rfl
            have x3 : w5.cell? ⟨wr.heap.size, 3, none⟩ = some (.int .i64 (S m)) := by rw [hb5.cell (p := ⟨wr.heap.size, 3, none⟩) (by simp), World.cell?_alloc_at _ _ _ _ rfl]; rfl
            have HB5 := Lib.hid (Below.on HBX.out hb5)
            clear hb5 p0 p1 p2 p3
            go_wp2
            go_roundw
            case rel => exact ⟨j + 1, _, _, _, _, by omega, by go_num, rfl, rfl, rfl, rfl, by rw [HTK.out]; simpa using HN.out, HB5.out⟩
            case measure => simp [intOf] <;> omega
        · have d0 : (S m == 0) = false := by simp [hS0]
          have h1 : Cm.can F E S at_ m = false := by unfold Cm.can; simp [hS0]
          have h2 : Cm.early F S at_ m = false := by unfold Cm.early; simp [hS0]
          have hcb : (decide (S m = 0) && decide (F m ≤ at_) && decide (at_ ≤ E m)) = false := h1
          by_cases hS2 : S m = 2
          · have d2 : (S m == 2) = true := by simp [hS2]
            have h3 : Cm.late S m = true := by unfold Cm.late; simp [hS2]
            have HCB := Lib.hid hcb
            clear hcb hS0 hS2
            have HN := Lib.hid (HACC.out.next m h1 h2 h3)
            clear h1 h2 h3
            go_wp2_with fail
            refine claimable_any.mono ?_
            rintro e' w5 ⟨rfl, hb5⟩
            rw [HCB.out]
            have hsz5 := hb5.size
            have x0 : w5.cell? ⟨wr.heap.size, 0, none⟩ = some (.int .i64 (A m)) := by rw [hb5.cell (p := ⟨wr.heap.size, 0, none⟩) (by simp), World.cell?_alloc_at _ _ _ _ rfl]; rfl
            have x1 : w5.cell? ⟨wr.heap.size, 1, none⟩ = some (.int .i64 (F m)) := by rw [hb5.cell (p := ⟨wr.heap.size, 1, none⟩) (by simp), World.cell?_alloc_at _ _ _ _ rfl]; rfl
            have x3 : w5.cell? ⟨wr.heap.size, 3, none⟩ = some (.int .i64 (S m)) := by rw [hb5.cell (p := ⟨wr.heap.size, 3, none⟩) (by simp), World.cell?_alloc_at _ _ _ _ rfl]; rfl
            have HB5 := Lib.hid (Below.on HBX.out hb5)
            clear hb5 p0 p1 p2 p3
            go_wp2
            go_roundw
            case rel => exact ⟨j + 1, _, _, _, _, by omega, by go_num, rfl, rfl, rfl, rfl, by rw [HTK.out]; simpa using HN.out, HB5.out⟩
            case measure => simp [intOf] <;> omega
          · have d2 : (S m == 2) = false := by simp [hS2]
            have h3 : Cm.late S m = false := by unfold Cm.late; simp [hS0, hS2]
            have HCB := Lib.hid hcb
            clear hcb hS0 hS2
            have HN := Lib.hid (HACC.out.next m h1 h2 h3)
            clear h1 h2 h3
            go_wp2_with fail
            refine claimable_any.mono ?_
            rintro e' w5 ⟨rfl, hb5⟩
            rw [HCB.out]
            have hsz5 := hb5.size
            have x0 : w5.cell? ⟨wr.heap.size, 0, none⟩ = some (.int .i64 (A m)) := by rw [hb5.cell (p := ⟨wr.heap.size, 0, none⟩) (by simp), World.cell?_alloc_at _ _ _ _ rfl]; rfl
            have x1 : w5.cell? ⟨wr.heap.size, 1, none⟩ = some (.int .i64 (F m)) := by rw [hb5.cell (p := ⟨wr.heap.size, 1, none⟩) (by simp), World.cell?_alloc_at _ _ _ _ rfl]; rfl
            have x3 : w5.cell? ⟨wr.heap.size, 3, none⟩ = some (.int .i64 (S m)) := by rw [hb5.cell (p := ⟨wr.heap.size, 3, none⟩) (by simp), World.cell?_alloc_at _ _ _ _ rfl]; rfl
            have HB5 := Lib.hid (Below.on HBX.out hb5)
            clear hb5 p0 p1 p2 p3
            go_wp2
            go_roundw
            case rel => exact ⟨j + 1, _, _, _, _, by omega, by go_num, rfl, rfl, rfl, rfl, by rw [HTK.out]; simpa using HN.out, HB5.out⟩
            case measure => simp [intOf] <;> omega
      · obtain rfl : j = l.length := by omega
        rw [List.take_length] at HACC
        obtain ⟨hsu, hfo, hea, hla⟩ := HACC.out
        have hbd := Cm.lsum_bd (p := Cm.can F E S at_) (l := l) (fun i hi => HST.out i (HLT.out i hi))
        rw [hsu] at hbd
        obtain ⟨u0, u1⟩ := hbd
        clear hbw
        cases f with
        | false =>
          cases e with
          | true =>
            have he : Cm.ckE A F E S at_ most l = 8 := by unfold Cm.ckE; rw [if_neg HL0.out, if_pos hfo, if_pos hea]
            have hv : Cm.ckV A F E S at_ most l = 0 := by unfold Cm.ckV; rw [if_neg (by rw [he]; decide)]
            have HE := Lib.hid he
            have HV := Lib.hid hv
            clear he hv hsu hfo hea hla
            go_wp2
            go_ret2
            exact ⟨ret_int2 HV.out.symm HE.out.symm, HBW.out⟩
          | false =>
            cases t with
            | true =>
              have he : Cm.ckE A F E S at_ most l = 16 := by unfold Cm.ckE; rw [if_neg HL0.out, if_pos hfo, if_neg (by rw [hea]; decide), if_pos hla]
              have hv : Cm.ckV A F E S at_ most l = 0 := by unfold Cm.ckV; rw [if_neg (by rw [he]; decide)]
              have HE := Lib.hid he
              have HV := Lib.hid hv
              clear he hv hsu hfo hea hla
              go_wp2
              go_ret2
              exact ⟨ret_int2 HV.out.symm HE.out.symm, HBW.out⟩
            | false =>
              have he : Cm.ckE A F E S at_ most l = 17 := by unfold Cm.ckE; rw [if_neg HL0.out, if_pos hfo, if_neg (by rw [hea]; decide), if_neg (by rw [hla]; decide)]
              have hv : Cm.ckV A F E S at_ most l = 0 := by unfold Cm.ckV; rw [if_neg (by rw [he]; decide)]
              have HE := Lib.hid he
              have HV := Lib.hid hv
              clear he hv hsu hfo hea hla
              go_wp2
              go_ret2
              exact ⟨ret_int2 HV.out.symm HE.out.symm, HBW.out⟩
        | true =>
          by_cases hov : 1000000000000 < u
          · have he : Cm.ckE A F E S at_ most l = 9 := by unfold Cm.ckE; rw [if_neg HL0.out, if_neg (by rw [hfo]; decide), hsu, if_pos hov]
            have hv : Cm.ckV A F E S at_ most l = 0 := by unfold Cm.ckV; rw [if_neg (by rw [he]; decide)]
            have HE := Lib.hid he
            have HV := Lib.hid hv
            clear he hv hsu hfo hea hla
            go_wp2
            go_ret2
            exact ⟨ret_int2 HV.out.symm HE.out.symm, HBW.out⟩
          · by_cases hmo : 0 < most ∧ most < u
            · have he : Cm.ckE A F E S at_ most l = 31 := by unfold Cm.ckE; rw [if_neg HL0.out, if_neg (by rw [hfo]; decide), hsu, if_neg hov, if_pos hmo]
              obtain ⟨hm0, hm1⟩ := hmo
              have hv : Cm.ckV A F E S at_ most l = 0 := by unfold Cm.ckV; rw [if_neg (by rw [he]; decide)]
              have HE := Lib.hid he
              have HV := Lib.hid hv
              clear he hv hsu hfo hea hla
              go_wp2
              go_ret2
              exact ⟨ret_int2 HV.out.symm HE.out.symm, HBW.out⟩
            · have he : Cm.ckE A F E S at_ most l = 0 := by unfold Cm.ckE; rw [if_neg HL0.out, if_neg (by rw [hfo]; decide), hsu, if_neg hov, if_neg hmo]
              have hv : Cm.ckV A F E S at_ most l = u := by unfold Cm.ckV; rw [if_pos he, hsu]
              have HE := Lib.hid he
              have HV := Lib.hid hv
              have hov2 : u ≤ 1000000000000 := by omega
              clear he hv hsu hfo hea hla hov
              by_cases hm0 : 0 < most
              · have hm1 : u ≤ most := by omega
                clear hmo
                go_wp2
                go_ret2
                exact ⟨ret_int2 HV.out.symm HE.out.symm, HBW.out⟩
              · clear hmo
                go_wp2
                go_ret2
                exact ⟨ret_int2 HV.out.symm HE.out.symm, HBW.out⟩
end Go.Proofs.Ytpalmlcepppifaa
