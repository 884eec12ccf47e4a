/- The claims' maps and lists, kept over what turns other blocks. -/
import Derived.Test.YtpalmlcepppifaaClmObj
set_option linter.unusedVariables false
namespace Go.Proofs.Ytpalmlcepppifaa
open Go.RowKit Go.Maps Go.ChangeShapes Go.WideElems Go.WideMaps

theorem ne_obj {w : World} {a b : Nat} {o1 o2 : Go.Obj} (h1 : w.heap[a]? = some o1) (h2 : w.heap[b]? = some o2) (hne : o1 ≠ o2) : a ≠ b := fun e => by
  rw [e, h2] at h1; injection h1 with h1; exact hne h1.symm
theorem cells_map {c : Array Value} {t : TypeId} {fr : Nat × Nat} {es : Array MapEntry} {k : Nat} : Go.Obj.cells c t fr ≠ .map es k := by intro e; cases e
theorem cells_ne {c c' : Array Value} {t t' : TypeId} (h : t ≠ t') : Go.Obj.cells c t (0, 0) ≠ .cells c' t' (0, 0) := by intro e; injection e with _ e; exact h e

theorem eq_apart {α β : Type} {g : α → β} : ∀ {l : List α}, (l.map g).Pairwise (fun p q => p ≠ q) → ∀ {a b : α}, a ∈ l → b ∈ l → g a = g b → a = b := by
  intro l
  induction l with
  | nil => intro _ a b ha; cases ha
  | cons x l ih =>
    intro hp a b ha hb he
    rw [List.map_cons, List.pairwise_cons] at hp
    rcases List.mem_cons.1 ha with rfl | ha
    · rcases List.mem_cons.1 hb with rfl | hb
      · rfl
      · exact absurd he (hp.1 _ (List.mem_map.2 ⟨b, hb, rfl⟩))
    · rcases List.mem_cons.1 hb with hbx | hb
      · exact absurd (he.trans (by rw [hbx])).symm (hp.1 _ (List.mem_map.2 ⟨a, ha, rfl⟩))
      · exact ih hp.2 ha hb he

set_option maxRecDepth 100000 in
/-- A look-up's value, in whatever world in which the map's block is the same. -/
theorem look_all {w : World} {base b n : Nat} {D : DataW Unit} {s : ByteArray} (h : w.ownsGroups Try.prog 9 base 3 .i64 b n D) (hn : n < maxLen) (hs : s.size ≤ maxLen) :
    ∃ v zs, (∀ w1 : World, w1.heap[b]? = w.heap[b]? → (Instr.lookup 74 (.map (some b)) (.string s) false).run Try.prog w1 = .ok v w1) ∧ D.atKey (.string s.data.toList) .nil = rowDatum .i64 v zs ∧ w.ownsInts base 3 .i64 v zs ∧ zs.length ≤ n ∧
      w.groupBack Try.prog 74 9 base 3 .i64 b n D (.string s) (.string s.data.toList) v := by
  have hkey := keyOf_string_mk (P := Try.prog) Try.underlying9 hs
  obtain ⟨v, zs, hrun, hat, ho, hl, hback⟩ := h.at kS Try.underlying74 (zeroG w) hn hkey
  refine ⟨v, zs, fun w1 hw1 => ?_, hat, ho, hl, hback⟩
  obtain ⟨es, clock, hb, F, _⟩ := h
  have hb1 : w1.heap[b]? = some (.map es clock) := hw1.trans hb
  rcases Maps.fit_look false kS Try.underlying74 (zeroG w) hb F hkey with ⟨hr, hno, _⟩ | ⟨e0, y, hm, hk, hr, _⟩
  · rw [hrun] at hr
    obtain rfl : v = .slice none 0 0 := by simpa using hr
    rcases Maps.fit_look false kS Try.underlying74 (zeroG w1) hb1 F hkey with ⟨hr1, _⟩ | ⟨e1, y1, hm1, hk1, hr1, _⟩
    · simpa using hr1
    · exact absurd hk1 (hno _ hm1)
  · rw [hrun] at hr
    obtain rfl : v = e0.val := by simpa using hr
    rcases Maps.fit_look false kS Try.underlying74 (zeroG w1) hb1 F hkey with ⟨hr1, hno1, _⟩ | ⟨e1, y1, hm1, hk1, hr1, _⟩
    · exact absurd hk (hno1 _ hm)
    · have key : ∀ x ∈ es.toList, x.key = .string s → (rg Try.prog 9 (rowElem (H := Unit) w base 3 .i64) x).1 = .string s.data.toList := fun x hx hkx => by
        obtain ⟨z, hz⟩ := F.reads x hx
        have m := rd_key hz
        rw [rg_of hz]
        rw [hkx, hkey] at m
        exact (Option.some.inj m).symm
      have ap := fit_apart kS F
      have : e0 = e1 := by
        refine eq_apart (g := fun x => (rg Try.prog 9 (rowElem (H := Unit) w base 3 .i64) x).1) ?_ hm hm1 (by rw [key e0 hm hk, key e1 hm1 hk1])
        rw [List.pairwise_map] at ap ⊢
        exact ap
      subst this
      simpa using hr1

theorem grp_keep {w w' : World} {base b n : Nat} {D : DataW Unit} {r : Option Nat} (h : w.ownsGroups Try.prog 9 base 3 .i64 b n D) (hg : w.grownBy w' r) (hr : ∀ k, r = some k → (∀ cur, w.heap[k]? ≠ some (.cells cur 3 (0, 0))) ∧ b ≠ k) : w'.ownsGroups Try.prog 9 base 3 .i64 b n D := by
  cases r with
  | none =>
    refine h.kept hg (by simp) fun es clock hb x hx => ?_
    cases x.val.ownBlock <;> simp
  | some k =>
    obtain ⟨h1, h2⟩ := hr k rfl
    exact h.kept hg (by simp; exact h2) (grp_rows h h1)
end Go.Proofs.Ytpalmlcepppifaa
