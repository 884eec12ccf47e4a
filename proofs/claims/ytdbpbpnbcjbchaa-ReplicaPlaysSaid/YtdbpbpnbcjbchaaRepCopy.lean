/- The walk of copyLog: a copy of a log in a row of its own. -/
import Derived.Test.YtdbpbpnbcjbchaaRepCopyLaw
set_option linter.unusedVariables false
namespace Go.Proofs.Ytdbpbpnbcjbchaa
open Go.RowKit
theorem run_copy_none_sz {P : Program} (w : World) (dT sT ty elem : TypeId) (d a : Option Addr) (dLen dCap sLen sCap sz : Nat) (hu : P.underlying dT = some (.slice elem)) (hs : (P.info? elem).map (·.size) = some sz) (hn : Nat.min sLen dLen = 0) :
    (Builtin.copy_ #[dT, sT] ty #[.slice d dLen dCap, .slice a sLen sCap]).run P w = .ok (goInt 0) w := by
  cases hq : P.info? elem with
  | none => simp [hq] at hs
  | some i =>
    have hl : ∀ (x : Addr), (loadCells x 0).run P w = .ok #[] w := fun x => by simpa using run_loadCells_list (P := P) w x [] (by simp)
    cases d <;> cases a <;> simp [Builtin.copy_, run_underlying hu, Builtin.lenOf, Builtin.firstCells, sizeOf, typeInfo, hq, hn, storeCells, hl]
/-- A whole slice is copied into a row of the call's own. -/
theorem run_copy_whole {P : Program} (w : World) (dT sT ty elem : TypeId) (B sz n cA : Nat) (v : Value) (xs : List Value) (A : Option Addr) (G : Nat → Value)
    (hu : P.underlying dT = some (.slice elem)) (hs : (P.info? elem).map (·.size) = some sz) (hown : w.ownsRow B elem sz v n xs) (hA : Cells w A (n * sz) G) (hsz : 0 < sz)
    (h1 : ∀ j, j < n * sz → (G j).oneCell' = true) :
    ∃ w', (Builtin.copy_ #[dT, sT] ty #[v, .slice A n cA]).run P w = .ok (goInt n) w' ∧ w'.ownsRow B elem sz v n (row (n * sz) G) ∧ w.grownBy w' v.ownBlock := by
  rcases Nat.eq_zero_or_pos n with h0 | h0
  · subst h0
    obtain ⟨D, cD, rfl, _⟩ := own_slice hown
    refine ⟨w, run_copy_none_sz w dT sT ty elem D A 0 cD 0 cA sz hu hs rfl, ?_, ⟨rfl, rfl, rfl, Nat.le_refl _, fun _ _ _ => rfl⟩⟩
    have e : xs = row (0 * sz) G := by
      have := hown.1
      rw [Nat.zero_mul] at this ⊢
      exact List.eq_nil_of_length_eq_zero this
    rw [← e]; exact hown
  · rcases hown.2 with ⟨_, h⟩ | ⟨g, cap, cur, rfl, hb, hg, hroom, hcm, hcs, hcur⟩
    · omega
    obtain ⟨b, off, rfl, hlt, hc⟩ := hA (Nat.mul_pos h0 hsz)
    have hle : n * sz ≤ cap * sz := Nat.mul_le_mul_right _ hroom
    have hrun := run_copy_sz (P := P) w dT sT ty elem g n cap sz ⟨b, off, none⟩ n cA cur elem (row (n * sz) G) n hu hs hg (by simp) (row_length _ _) (fun j u hj => ?_) (by rw [row_length]; omega) (fun u hu => ?_)
    · refine ⟨_, hrun, ⟨row_length _ _, .inr ⟨g, cap, _, rfl, hb, setRow_heap w g cur _ elem _ hg, hroom, hcm, ?_, ?_⟩⟩, ⟨rfl, rfl, rfl, by simp [World.setRow], fun k _ hk => setRow_other w g k _ (fun e => hk (by simp [Value.ownBlock, e]))⟩⟩
      · simp [row_length]; omega
      · simp [row_length]
    · have hjn : j < n * sz := by
        rcases Nat.lt_or_ge j (n * sz) with h | h
        · exact h
        · rw [List.getElem?_eq_none (by rw [row_length]; exact h)] at hj; cases hj
      rw [row_get hjn] at hj
      injection hj with hj
      rw [← hj]
      have := hc j hjn
      unfold Addr.add
      split
      · rename_i h0; subst h0; exact this
      · exact this
    · unfold row at hu
      obtain ⟨j, hj, rfl⟩ := List.mem_map.1 hu
      exact h1 j (List.mem_range.1 hj)
theorem wpList_copy_whole {P : Program} {w : World} {ops : Array Oper} {rest : List Oper} {o : Oper} {a : Act} {Q : Exit → Act → World → Prop} (hgd : o.guard = none) (d s : Operand) (dT sT : TypeId)
    (ho : o.op = .call { callee := .builtin .copy, args := #[d, s], argTypes := #[dT, sT] }) (elem : TypeId) (B sz n cA : Nat) (v : Value) (xs : List Value) (A : Option Addr) (G : Nat → Value)
    (hu : P.underlying dT = some (.slice elem)) (hsz : (P.info? elem).map (·.size) = some sz) (hd : a.eval d = v) (hs : a.eval s = .slice A n cA)
    (hown : w.ownsRow B elem sz v n xs) (hA : Cells w A (n * sz) G) (h0 : 0 < sz) (h1 : ∀ j, j < n * sz → (G j).oneCell' = true)
    (h : ∀ w', Hid (w'.ownsRow B elem sz v n (row (n * sz) G)) → w.grownBy w' v.ownBlock → wpList P ops Q rest (a.put o.dst (goInt n)) w') : wpList P ops Q (o :: rest) a w := by
  refine wpList_plain hgd fun K hK => ?_
  obtain ⟨w', hrun, h2, h3⟩ := run_copy_whole (P := P) w dT sT o.type elem B sz n cA v xs A G hu hsz hown hA h0 h1
  unfold Oper.wp
  simp [execOp, ho, resolve, invoke, builtin, hd, hs, hrun, Result.andThen]
  exact hK _ _ (h w' h2 h3)
theorem Try.infoEntry : (Try.prog.info? 62).map (fun i => (i.zero, i.size, i.bytes)) = some (some (.agg #[.int .i64 0, .string ByteArray.empty]), 2, 24) := by kernel_rfl
theorem Try.sizeEntry : (Try.prog.info? 62).map (·.size) = some 2 := by kernel_rfl
namespace Rp
theorem Ent_one (l : Log) (j : Nat) : (Ent l j).oneCell' = true := by
  unfold Ent; split <;> rfl
set_option maxHeartbeats 1000000 in
theorem copy_any {w : World} {A : Option Addr} {n c : Nat} {G : Nat → Value} (hA : Cells w A (n * 2) G) (h1 : ∀ j, (G j).oneCell' = true) (hn : n ≤ 1024) :
    Calls Try.prog 30 #[.slice A n c] w fun e w' => ∃ v, e = .returned v ∧ w'.ownsRow w.heap.size 62 2 v n (row (n * 2) G) ∧ Below w.heap.size w w' := by
  obtain ⟨i0, hi, hz0, hz1, hz2⟩ := info_parts Try.infoEntry
  have HA := Lib.hid hA
  have H1 := Lib.hid h1
  clear hA h1
  go_enter Try.func30, Try.ntmps30
  go_wp2_with (at_make; refine wpList_make_full _ rfl _ _ 50 rfl w.heap.size 62 i0 (.agg #[.int .i64 0, .string ByteArray.empty]) 2 Try.underlying50 hi hz0 hz1 _ _ _ _ n rfl rfl rfl rfl ?c1 ?c2 ?c3 ?_)
  case c1 => rw [hz2]; omega
  case c2 => unfold maxLen; omega
  case c3 => omega
  intro w2 hown2 hgr2
  have hb2 : Below w.heap.size w w2 := (Below.refl _ _).grown hgr2 (Nat.le_refl _) (by simp)
  have hs2 := hb2.size
  have HO2 := Lib.hid hown2
  have HB2 := Lib.hid hb2
  clear hown2 hgr2 hb2
  go_wp2_with (refine wpList_copy_whole rfl _ _ 50 50 rfl 62 w.heap.size 2 n c _ _ A G Try.underlying50 Try.sizeEntry rfl rfl HO2.out (HA.out.below HB2.out) (by decide) (fun j _ => H1.out j) ?_)
  intro w3 HO3 hgr3
  have HB3 := Lib.hid (own_below HB2.out HO2.out hs2 hgr3)
  clear hgr3
  go_wp2
  go_ret
  exact ⟨_, rfl, HO3.out, HB3.out⟩
end Rp
end Go.Proofs.Ytdbpbpnbcjbchaa
