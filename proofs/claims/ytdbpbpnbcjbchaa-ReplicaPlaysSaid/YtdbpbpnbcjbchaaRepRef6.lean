/- The reference's New; a log laid anew; an append of a whole slice at a step of a drawn region. -/
import Derived.Test.YtdbpbpnbcjbchaaRepRef5
set_option linter.unusedVariables false
namespace Go.Proofs.Ytdbpbpnbcjbchaa
open Go.RowKit
theorem run_append_none {P : Program} (w : World) (t ty e : TypeId) (i : TypeInfo) (base size n c : Nat) (v : Value) (xs : List Value) (ht : P.underlying t = some (.slice e)) (hi : P.info? e = some i) (hown : w.ownsRow base e size v n xs) :
    (Builtin.append_ #[t, t] ty #[v, .slice none 0 c]).run P w = .ok v w := by
  rcases hown.2 with ⟨rfl, rfl⟩ | ⟨g, cap, cur, rfl, _, _, hc, _⟩
  · simp [Builtin.append_, run_underlying ht, Builtin.lenOf, Builtin.firstCells, sizeOf, typeInfo, hi]
  · simp [Builtin.append_, run_underlying ht, Builtin.lenOf, Builtin.firstCells, sizeOf, typeInfo, hi, hc, storeCells]
/-- An append of a whole slice, whatever its address, onto a row of the call's own. -/
theorem run_append_any {P : Program} (w : World) (t ty : TypeId) (base : Nat) (e : TypeId) (i : TypeInfo) (z : Value) (size bytes : Nat) (ht : P.underlying t = some (.slice e)) (hi : P.info? e = some i) (hz : i.zero = some z)
    (hsize : i.size = size) (hby : i.bytes = bytes) (hzs : z.cells.size = size) (hsz : 0 < size) (v : Value) (n : Nat) (xs : List Value) (hown : w.ownsRow base e size v n xs)
    (A : Option Addr) (m c : Nat) (G : Nat → Value) (hA : Cells w A (m * size) G) (h1 : ∀ j, (G j).oneCell' = true) (h63 : n + m ≤ maxLen) (hbytes : (n + m) * bytes ≤ 140737488355328) (hbase : base ≤ w.heap.size) :
    ∃ v' w', (Builtin.append_ #[t, t] ty #[v, .slice A m c]).run P w = .ok v' w' ∧ w'.ownsRow base e size v' (n + m) (xs ++ row (m * size) G) ∧ w.grownBy w' v.ownBlock := by
  cases A with
  | none =>
    have hm : m = 0 := by
      rcases Nat.eq_zero_or_pos m with h | h
      · exact h
      · obtain ⟨_, _, e, _⟩ := hA (Nat.mul_pos h hsz)
        cases e
    subst hm
    refine ⟨v, w, run_append_none w t ty e i base size n c v xs ht hi hown, ?_, ⟨rfl, rfl, rfl, Nat.le_refl _, fun _ _ _ => rfl⟩⟩
    rw [Nat.zero_mul, row_zero, List.append_nil]
    exact hown
  | some ad =>
    have hn1 : ∀ j u, (row (m * size) G)[j]? = some u → w.cell? (ad.add j) = some u := fun j u hj => by
      have hjn : j < m * size := by
        rcases Nat.lt_or_ge j (m * size) with h | h
        · exact h
        · rw [List.getElem?_eq_none (by rw [row_length]; exact h)] at hj; cases hj
      rw [row_get hjn] at hj
      injection hj with hj
      rw [← hj]
      exact Cells.at_add hA hjn
    have hn2 : ∀ u ∈ row (m * size) G, u.oneCell' = true := fun u hu => by
      unfold row at hu
      obtain ⟨j, _, rfl⟩ := List.mem_map.1 hu
      exact h1 j
    obtain ⟨v', w', hr, h2, h3, _⟩ := run_append_own (P := P) w base t ty e i z size bytes ht hi hz hsize hby hzs hsz v n xs hown ad m c (row (m * size) G) (row_length _ _) hn1 hn2 h63 hbytes hbase
    exact ⟨v', w', hr, h2, h3⟩
theorem step_append_any {P : Program} {w : World} {ops : Array Oper} {o : Oper} {a : Act} {K : Act → World → Prop} {Q : Exit → Act → World → Prop} {E : Prop} (hgd : o.guard = none) (s x : Operand) (t : TypeId)
    (ho : o.op = .call { callee := .builtin .append, args := #[s, x], argTypes := #[t, t] })
    (base : Nat) (e : TypeId) (i : TypeInfo) (z : Value) (size bytes : Nat) (ht : P.underlying t = some (.slice e)) (hi : P.info? e = some i) (hz : i.zero = some z)
    (hsize : i.size = size) (hby : i.bytes = bytes) (hzs : z.cells.size = size) (hsz : 0 < size) (v : Value) (n : Nat) (xs : List Value) (hs : a.eval s = v) (hown : w.ownsRow base e size v n xs)
    (A : Option Addr) (m c : Nat) (G : Nat → Value) (hx : a.eval x = .slice A m c) (hA : Cells w A (m * size) G) (h1 : ∀ j, (G j).oneCell' = true) (h63 : n + m ≤ maxLen) (hbytes : (n + m) * bytes ≤ 140737488355328) (hbase : base ≤ w.heap.size)
    (h : ∀ D c' w', w'.ownsRow base e size (.slice D (n + m) c') (n + m) (xs ++ row (m * size) G) → w.grownBy w' v.ownBlock → K (a.put o.dst (.slice D (n + m) c')) w') :
    if Region.wanted o (yielded ops a.tmps) = true then Oper.wp P o a w K Q else E := by
  have hw : Region.wanted o (yielded ops a.tmps) = true := by simp [Region.wanted, hgd]
  rw [if_pos hw]
  obtain ⟨v', w', hr, h2, h3⟩ := run_append_any (P := P) w t o.type base e i z size bytes ht hi hz hsize hby hzs hsz v n xs hown A m c G hA h1 h63 hbytes hbase
  obtain ⟨D, c', rfl, _⟩ := own_slice h2
  unfold Oper.wp execOp
  simp only [ho, resolve, invoke, builtin, Sem.run_bind, Sem.run_pure, Result.andThen_ok, List.map_toArray, List.map_cons, List.map_nil, hs, hx, hr]
  exact h D c' w' h2 h3
theorem Try.infoEntR : (Try.prog.info? 73).map (fun i => (i.zero, i.size, i.bytes)) = some (some (.agg #[.int .i64 0, .string ByteArray.empty]), 2, 24) := by kernel_rfl
namespace Rp
theorem zero_row (n : Nat) : (madeCells #[.bool false, .bool false, .int .i64 0, .int .i64 0, .slice none 0 0] (n * 5)).toList = row (n * 5) (rcell st0.nd (fun _ => .slice none 0 0)) := by
  apply List.ext_getElem?
  intro j
  by_cases hj : j < n * 5
  · rw [row_get hj]
    have h : j % 5 = 0 ∨ j % 5 = 1 ∨ j % 5 = 2 ∨ j % 5 = 3 ∨ j % 5 = 4 := by omega
    rcases h with h | h | h | h | h <;> simp [madeCells, hj, h, rcell, st0]
  · rw [List.getElem?_eq_none (by simp [madeCells]; omega), List.getElem?_eq_none (by rw [row_length]; omega)]
theorem own_full {B : Nat} {w : World} {e : TypeId} {size g n : Nat} {xs : List Value} (h : w.ownsRow B e size (.slice (some ⟨g, 0, none⟩) n n) n xs) : Blk w g e xs.toArray := by
  rcases h.2 with ⟨hv, _⟩ | ⟨g', cap, cur, hv, _, hg, _, _, hs, hx⟩
  · cases hv
  · injection hv with h1 _ h3
    injection h1 with h1
    injection h1 with h1
    subst h1 h3
    unfold Blk
    rw [hg, ← hx, List.take_of_length_le (by simp [hs])]
set_option maxHeartbeats 1000000 in
theorem rnew_ok (w : World) {n : Nat} (h1 : 1 ≤ n) (h7 : n ≤ 7) :
    Calls Try.prog 22 #[.int .i64 (n : Int)] w fun e w' => ∃ h b, e = .returned (.tuple #[.pointer (some ⟨h, 0, none⟩), .int .i64 0]) ∧ RObj w.heap.size w' h b n st0 ∧ Below w.heap.size w w' := by
  obtain ⟨i0, hi, hz0, hz1, hz2⟩ := info_parts Try.infoNode
  go_enter Try.func22, Try.ntmps22
  go_wp2_with (at_make; refine wpList_make_full _ rfl _ _ 65 rfl w.heap.size 71 i0 (.agg #[.bool false, .bool false, .int .i64 0, .int .i64 0, .slice none 0 0]) 5 Try.underlying65 hi hz0 hz1 _ _ _ _ n rfl rfl rfl rfl ?c1 ?c2 ?c3 ?_)
  case c1 => rw [hz2]; omega
  case c2 => unfold maxLen; omega
  case c3 => omega
  intro w2 hown2 hgr2
  have hown3 : w2.ownsRow w.heap.size 71 5 (.slice (some ⟨w.heap.size, 0, none⟩) n n) n (row (n * 5) (rcell st0.nd (fun _ => .slice none 0 0))) := by
    rw [← zero_row n]
    exact hown2
  have hb2 : Below w.heap.size w w2 := (Below.refl _ _).grown hgr2 (Nat.le_refl _) (by simp)
  have hB := own_full hown3
  have hs2 := hb2.size
  have HF := Lib.hid (show RObj w.heap.size (w2.alloc (.cells #[.slice (some ⟨w.heap.size, 0, none⟩) n n, .slice none 0 0] 67)) w2.heap.size w.heap.size n st0 from
    ⟨fun _ => .slice none 0 0, .slice none 0 0, ⟨Blk.new w2 _ _, hB.alloc _, fun i hi => World.ownsRow_nil _ _ _ _, World.ownsRow_nil _ _ _ _, hs2, Nat.le_refl _, h1, h7, fun i _ => Nat.zero_le _, fun i _ => ⟨Nat.zero_le _, Nat.zero_le _⟩⟩⟩)
  have HB := Lib.hid (hb2.alloc hs2 (.cells #[.slice (some ⟨w.heap.size, 0, none⟩) n n, .slice none 0 0] 67))
  clear hown2 hown3 hgr2 hb2 hB
  go_wp2
  go_ret2
  exact ⟨_, _, rfl, HF.out, HB.out⟩
set_option maxHeartbeats 1000000 in
theorem rnew_bad (w : World) {x : Int} (hx : x < 1 ∨ 7 < x) :
    Calls Try.prog 22 #[.int .i64 x] w fun e w' => e = .returned (.tuple #[.pointer none, .int .i64 2]) ∧ w = w' := by
  rcases hx with hx | hx
  all_goals
    go_enter Try.func22, Try.ntmps22
    go_wp2
    go_ret2
    exact ⟨rfl, rfl⟩
theorem rcell_log (s : St) (lv : Nat → Value) (v : Value) (i : Nat) (l : Log) (m : Nat) : ∀ j, j < m → rcell (setN s i { s.nd i with log := l }).nd (setL lv i v) j = if j = i * 5 + 4 then v else rcell s.nd lv j := fun j hj => by
  by_cases ei : j / 5 = i
  · have hm : j = i * 5 ∨ j = i * 5 + 1 ∨ j = i * 5 + 2 ∨ j = i * 5 + 3 ∨ j = i * 5 + 4 := by omega
    obtain ⟨a0, a1, a2, a3, a4⟩ := rcell_at s.nd lv i
    obtain ⟨b0, b1, b2, b3, b4⟩ := rcell_at (setN s i { s.nd i with log := l }).nd (setL lv i v) i
    rw [setN_at] at b0 b1 b2 b3
    rcases hm with rfl | rfl | rfl | rfl | rfl
    · rw [b0, a0, if_neg (by omega)]
    · rw [b1, a1, if_neg (by omega)]
    · rw [b2, a2, if_neg (by omega)]
    · rw [b3, a3, if_neg (by omega)]
    · rw [b4, if_pos rfl]; exact if_pos rfl
  · rw [if_neg (by omega)]
    unfold rcell setL
    rw [setN_ne s _ ei, if_neg ei]
/-- A log laid anew. -/
theorem Rf.relog {B : Nat} {w w' : World} {h b n : Nat} {s : St} {lv : Nat → Value} {cv v : Value} (c : Rf B w h b n s lv cv) {i : Nat} (hi : i < n) {l : Log} (hb : Below w.heap.size w w')
    (hv : w'.ownsRow B 73 2 v l.length (row (l.length * 2) (Ent l))) (hl : l.length ≤ 1024) :
    Rf B (w'.setCell ⟨b, i * 5 + 4, none⟩ v) h b n (setN s i { s.nd i with log := l }) (setL lv i v) cv := by
  have c' := c.keep hb
  have hne : some h ≠ some b := fun e => blk_ne c'.grp c'.nds (by decide) (by injection e)
  refine ⟨Blk.grown c'.grp (only_set (only_refl w' b) _ _) hne, c'.nds.put (rcell_log s lv v i l _), fun j hj => ?_, own_put c'.cow (own_blk c'.cow c'.nds (by decide)) _ _, c.hB, c.bB, c.n1, c.n7, fun j hj => ?_, fun j hj => ?_⟩
  · by_cases e : j = i
    · subst e
      rw [show setL lv j v j = v from if_pos rfl, setN_at]
      exact own_put hv (own_blk hv c'.nds (by decide)) _ _
    · rw [show setL lv i v j = lv j from if_neg e, setN_ne s _ e]
      exact own_put (c'.own j hj) (own_blk (c'.own j hj) c'.nds (by decide)) _ _
  · by_cases e : j = i
    · subst e; rw [setN_at]; exact hl
    · rw [setN_ne s _ e]; exact c.l j hj
  · by_cases e : j = i
    · subst e; rw [setN_at]; exact c.e j hj
    · rw [setN_ne s _ e]; exact c.e j hj
end Rp
end Go.Proofs.Ytdbpbpnbcjbchaa
