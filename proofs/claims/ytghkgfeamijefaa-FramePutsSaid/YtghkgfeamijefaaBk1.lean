/- A slice of one-cell elements that lies anywhere in its block: read, cut at its front, appended to. Words of the book. -/
import Derived.Test.YtghkgfeamijefaaReg5
import Derived.Test.YtghkgfeamijefaaReg7
import Derived.Test.YtghkgfeamijefaaBook
import Derived.Test.YtghkgfeamijefaaDisk9
import Derived.Test.YtghkgfeamijefaaFr
import Derived.ArgAppend
set_option linter.unusedVariables false
set_option linter.unusedSimpArgs false
namespace Go.Proofs.Ytghkgfeamijefaa
open Go.RowKit B
theorem infoSlB : (Try.prog.info? 22).map (fun i => (i.zero, i.size, i.bytes)) = some (some (.slice none 0 0), 1, 24) := by kernel_rfl
theorem infoSl1 : (Try.prog.info? 22).map (·.size) = some 1 := by kernel_rfl
/-- A slice whose elements take one cell each, somewhere in its block. -/
def Tab (w : World) (v : Value) (vals : List Value) : Prop :=
  (v = .slice none 0 0 ∧ vals = []) ∨ ∃ g off cap cur, v = .slice (some ⟨g, off, none⟩) vals.length cap ∧ w.heap[g]? = some (.cells cur 22 (0, 0)) ∧ vals.length ≤ cap ∧ off + cap ≤ cur.size ∧ (cur.toList.drop off).take vals.length = vals
section
variable {S : Nat → Prop} {w w1 : World} {v : Value} {vals : List Value}
theorem Tab.ext (h : Tab w v vals) (hx : Ext S w w1) (hn : ∀ k, v.ownBlock = some k → ¬ S k) : Tab w1 v vals := by
  rcases h with h | ⟨g, off, cap, cur, rfl, h1, h2, h3, h4⟩
  · exact .inl h
  · exact .inr ⟨g, off, cap, cur, rfl, hx.get h1 (hn g rfl), h2, h3, h4⟩
theorem Tab.ext0 (h : Tab w v vals) (hx : Ext None_ w w1) : Tab w1 v vals := h.ext hx (fun _ _ a => a)
theorem Tab.nil (w : World) : Tab w (.slice none 0 0) [] := .inl ⟨rfl, rfl⟩
theorem Tab.lt (h : Tab w v vals) : ∀ k, v.ownBlock = some k → k < w.heap.size := by
  rcases h with ⟨rfl, _⟩ | ⟨g, off, cap, cur, rfl, h1, _⟩
  · intro k hk; simp [Value.ownBlock] at hk
  · intro k hk
    simp only [Value.ownBlock, Option.some.injEq] at hk
    subst hk
    exact (Array.getElem?_eq_some_iff.1 h1).1
theorem Tab.cells (h : Tab w v vals) (hp : 0 < vals.length) : ∃ g off cap, v = .slice (some ⟨g, off, none⟩) vals.length cap ∧ vals.length ≤ cap ∧ ∀ i u, vals[i]? = some u → w.cell? ⟨g, off + i, none⟩ = some u := by
  rcases h with ⟨_, rfl⟩ | ⟨g, off, cap, cur, rfl, h1, h2, h3, h4⟩
  · simp at hp
  · refine ⟨g, off, cap, rfl, h2, fun i u hi => ?_⟩
    rw [cell_of_row w g (off + i) cur _ (0, 0) h1]
    rw [← h4, List.getElem?_take] at hi
    split at hi
    · rw [List.getElem?_drop] at hi
      simpa using hi
    · cases hi
theorem Tab.isSl (h : Tab w v vals) : ∃ A c, v = .slice A vals.length c ∧ vals.length ≤ c := by
  rcases h with ⟨rfl, rfl⟩ | ⟨g, off, cap, cur, rfl, h1, h2, h3, h4⟩
  · exact ⟨none, 0, rfl, Nat.le_refl _⟩
  · exact ⟨_, _, rfl, h2⟩
/-- The front element is let go. -/
theorem Tab.tail {x : Value} (h : Tab w v (x :: vals)) : ∃ A c A', v = .slice A (vals.length + 1) c ∧ vals.length + 1 ≤ c ∧ (∀ W : World, (Instr.slice 59 v (some (.int .i64 1)) none none).run Try.prog W = .ok (.slice A' vals.length (c - 1)) W) ∧ Tab w (.slice A' vals.length (c - 1)) vals ∧ (∀ k, (Value.slice A' vals.length (c - 1)).ownBlock = some k → v.ownBlock = some k) := by
  rcases h with ⟨_, h⟩ | ⟨g, off, cap, cur, rfl, h1, h2, h3, h4⟩
  · cases h
  · simp only [List.length_cons] at h2 h4 ⊢
    obtain ⟨A', hA', hr⟩ := cut_l (P := Try.prog) 59 22 1 Try.underlying59 infoSlB (some ⟨g, off, none⟩) (vals.length + 1) cap 1 (by omega) (by omega) h2
    rw [show (1 : Int).toNat = 1 by decide] at hA' hr
    have htl : (cur.toList.drop (off + 1)).take vals.length = vals := by
      have hlen := congrArg List.length h4
      cases hd : cur.toList.drop off with
      | nil => rw [hd] at h4; cases h4
      | cons y r =>
        rw [hd] at h4
        simp only [List.take_succ_cons, List.cons.injEq] at h4
        rw [show cur.toList.drop (off + 1) = (cur.toList.drop off).drop 1 by rw [List.drop_drop], hd]
        exact h4.2
    refine ⟨_, cap, A', rfl, h2, fun W => by simpa using hr W, ?_, ?_⟩
    · rw [hA']
      by_cases e : cap = 1
      · have hz : vals = [] := List.eq_nil_of_length_eq_zero (by omega)
        subst hz
        rw [if_pos e]
        exact .inr ⟨g, off, cap - 1, cur, rfl, h1, by simp, by omega, by simp⟩
      · rw [if_neg e]
        refine .inr ⟨g, off + 1, cap - 1, cur, ?_, h1, by omega, by omega, htl⟩
        simp [Addr.add]
    · intro k hk
      rw [hA'] at hk
      split at hk
      · exact hk
      · simpa [Value.ownBlock, Addr.add] using hk
theorem Tab.ofOwn {n : Nat} {base : Nat} (h : w.ownsRow base 22 1 v n vals) : Tab w v vals := by
  obtain ⟨hl, h⟩ := h
  have hl : vals.length = n := by omega
  subst hl
  rcases h with ⟨rfl, hn⟩ | ⟨g, cap, cur, rfl, _, hg, h1, h2, h3, h4⟩
  · exact .inl ⟨rfl, List.eq_nil_of_length_eq_zero hn⟩
  · exact .inr ⟨g, 0, cap, cur, rfl, hg, h1, by omega, by simpa using h4⟩
/-- One element more. -/
theorem Tab.app1 (h : Tab w v vals) (ty : TypeId) {a : Addr} {c : Nat} {u : Value} (hu : w.cell? a = some u) (h1 : u.oneCell' = true) (hlen : vals.length < 1000000) :
    ∃ v' w', (Builtin.append_ #[59, 59] ty #[v, .slice (some a) 1 c]).run Try.prog w = .ok v' w' ∧ Tab w' v' (vals ++ [u]) ∧ Ext (fun k => v.ownBlock = some k) w w' ∧ (∀ k, v'.ownBlock = some k → v.ownBlock = some k ∨ w.heap.size ≤ k) := by
  obtain ⟨i0, hi, hzz⟩ := Option.map_eq_some_iff.1 infoSlB
  simp only [Prod.mk.injEq] at hzz
  obtain ⟨hz0, hz1, hz2⟩ := hzz
  have hnews : ∀ j x, ([u] : List Value)[j]? = some x → w.cell? (a.add j) = some x := by
    intro j x hj
    cases j with
    | zero =>
      simp only [List.getElem?_cons_zero, Option.some.injEq] at hj
      subst hj
      rw [show a.add 0 = a by unfold Addr.add; split <;> simp_all]
      exact hu
    | succ j => simp at hj
  have hone : ∀ x ∈ ([u] : List Value), x.oneCell' = true := fun x hx => by simp at hx; subst hx; exact h1
  rcases h with ⟨rfl, rfl⟩ | ⟨g, off, cap, cur, rfl, hg, h2, h3, h4⟩
  · obtain ⟨v', w', k1, k2, k3, _, k5⟩ := run_append_own_at (P := Try.prog) w 0 59 ty 22 i0 _ 1 24 Try.underlying59 hi hz0 hz1 hz2 rfl (by decide) (.slice none 0 0) 0 [] (World.ownsRow_nil w 0 _ 1) a 1 c [u] (by simp) hnews hone (by simp [maxLen]) (by omega) (Nat.zero_le _)
    refine ⟨v', w', k1, Tab.ofOwn k2, (Ext.refl _ _).grown k3 (fun k hk => .inl hk), fun k hk => ?_⟩
    rcases k5 with k5 | k5
    · exact .inl (k5 ▸ hk)
    · rw [k5] at hk; cases hk; exact .inr (Nat.le_refl _)
  · by_cases hroom : vals.length + 1 ≤ cap
    · have hlt := (Array.getElem?_eq_some_iff.1 hg).1
      have hr := run_append_room_cells (P := Try.prog) (w := w) 59 ty 22 i0 Try.underlying59 hi g off vals.length cap a 1 c [u] (by rw [hz1]; rfl) hnews hone hroom
        (fun j hj => by
          have : j = 0 := by simpa using hj
          subst this
          rw [hz1, cell_of_row w g _ cur _ (0, 0) hg, Array.getElem?_eq_getElem (by omega)]
          rfl) (fun j hj => by simp [World.frozen?, hg])
      rw [hz1] at hr
      simp only [World.setCells, Nat.mul_one] at hr
      refine ⟨_, _, hr, .inr ⟨g, off, cap, cur.setIfInBounds (off + vals.length) u, by simp, ?_, by simpa using hroom, by simpa using h3, ?_⟩, (Ext.refl (fun k => (Value.slice (some ⟨g, off, none⟩) vals.length cap).ownBlock = some k) w).setCell (p := ⟨g, off + vals.length, none⟩) (.inl rfl) u, fun k hk => .inl hk⟩
      · simp [World.setCell, Array.getElem?_modify, hg]
      · apply List.ext_getElem?
        intro i
        simp only [List.length_append, List.length_cons, List.length_nil, Array.toList_setIfInBounds, List.getElem?_take, List.getElem?_drop, List.getElem?_set, List.getElem?_append]
        by_cases hi : i < vals.length
        · have hv : vals[i]? = cur.toList[off + i]? := by
            conv => lhs; rw [← h4]
            rw [List.getElem?_take, if_pos hi, List.getElem?_drop]
          rw [if_pos (by omega), if_neg (by omega), if_pos hi, hv]
        · rw [if_neg hi]
          by_cases hi2 : i = vals.length
          · subst hi2
            rw [if_pos (by omega), if_pos rfl, if_pos (by simp; omega)]
            simp
          · rw [if_neg (by omega)]
            symm
            rw [List.getElem?_eq_none (by simp; omega)]
    · obtain ⟨v', w', k1, k2, k3⟩ := run_append_arg_grows (P := Try.prog) (w := w) 59 ty 22 i0 _ 1 24 Try.underlying59 hi hz0 hz1 hz2 rfl (by decide) ⟨g, off, none⟩ vals.length cap vals (by omega) (fun j x hj => by
          rw [show (⟨g, off, none⟩ : Addr).add j = ⟨g, off + j, none⟩ by unfold Addr.add; split <;> simp_all, cell_of_row w g (off + j) cur _ (0, 0) hg]
          rw [← h4, List.getElem?_take] at hj
          split at hj
          · rw [List.getElem?_drop] at hj
            simpa using hj
          · cases hj) a 1 c [u] (by simp) hnews (by omega) (by simp only [maxLen]; omega) (by omega)
      exact ⟨v', w', k1, Tab.ofOwn k2, ((Ext.refl _ _).grown k3 (fun k hk => by cases hk)), fun k hk => .inr (k2.lt k hk).1⟩
end
end Go.Proofs.Ytghkgfeamijefaa
