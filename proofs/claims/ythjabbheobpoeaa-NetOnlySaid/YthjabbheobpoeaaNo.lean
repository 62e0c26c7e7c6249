/- draylaw26, NetOnly: the table of what was sent, in memory: five by five rows of numbers beside the net. -/
import Derived.Test.YthjabbheobpoeaaNn
set_option linter.unusedVariables false
set_option linter.unusedSimpArgs false
namespace Go.Proofs.Ythjabbheobpoeaa
open Go.RowKit B
def I8 (l : List Int) : List Value := l.map (Value.int .i64)
theorem I8_length (l : List Int) : (I8 l).length = l.length := by simp [I8]
theorem I8_append (l m : List Int) : I8 (l ++ m) = I8 l ++ I8 m := by simp [I8]
theorem I8_one (l : List Int) : ∀ u ∈ I8 l, u.oneCell' = true := fun u hu => by
  obtain ⟨x, _, rfl⟩ := List.mem_map.1 hu
  rfl
/-- The table at block b9: its cells cs are rows of the call's own, none of which another one or the table shares. -/
structure SA (w W : World) (b9 : Nat) (cs : List Value) (S : Nat → Nat → List Int) : Prop where
  blk : Blk W b9 cs.toArray 44
  len : cs.length = 25
  ge : w.heap.size ≤ b9
  row : ∀ a b, a < 5 → b < 5 → ∃ r, cs[a * 5 + b]? = some r ∧ Own W 3 1 (fun k => w.heap.size ≤ k) r (S a b).length (I8 (S a b))
  dis : ∀ (i j : Nat) (r s : Value) (k : Nat), cs[i]? = some r → cs[j]? = some s → r.ownBlock = some k → s.ownBlock = some k → i = j
  far : ∀ (i : Nat) (r : Value) (k : Nat), cs[i]? = some r → r.ownBlock = some k → k ≠ b9
/-- The blocks of the table. -/
def psOf (b9 : Nat) (cs : List Value) : List Nat := b9 :: cs.filterMap Value.ownBlock
theorem mem_ps {b9 k : Nat} {cs : List Value} : k ∈ psOf b9 cs ↔ k = b9 ∨ ∃ (i : Nat) (r : Value), cs[i]? = some r ∧ r.ownBlock = some k := by
  unfold psOf
  rw [List.mem_cons, List.mem_filterMap]
  constructor
  · rintro (h | ⟨r, hr, hk⟩)
    · exact .inl h
    · obtain ⟨i, hi⟩ := List.getElem?_of_mem hr
      exact .inr ⟨i, r, hi, hk⟩
  · rintro (h | ⟨i, r, hr, hk⟩)
    · exact .inl h
    · exact .inr ⟨r, List.mem_of_getElem? hr, hk⟩
theorem SA.ext {w W W' : World} {b9 : Nat} {cs : List Value} {S : Nat → Nat → List Int} {T : Nat → Prop} (h : SA w W b9 cs S) (hx : Ext T W W') (hn : ∀ k ∈ psOf b9 cs, ¬ T k) : SA w W' b9 cs S :=
  ⟨h.blk.ext hx (hn b9 (mem_ps.2 (.inl rfl))), h.len, h.ge, fun a b ha hb => by
    obtain ⟨r, hr, ho⟩ := h.row a b ha hb
    exact ⟨r, hr, ho.ext hx (fun k hk => hn k (mem_ps.2 (.inr ⟨_, r, hr, hk⟩)))⟩, h.dis, h.far⟩
theorem SA.ext0 {w W W' : World} {b9 : Nat} {cs : List Value} {S : Nat → Nat → List Int} (h : SA w W b9 cs S) (hx : Ext None_ W W') : SA w W' b9 cs S := h.ext hx (fun _ _ a => a)
/-- After a step of the net. -/
theorem SA.step {w W W' : World} {b9 g m : Nat} {N : NS} {cs : List Value} {S : Nat → Nat → List Int} (h : SA w W b9 cs S) (hs : StepP w (psOf b9 cs) g N m W W') : SA w W' b9 cs S := h.ext hs.2 (fun k hk e => e hk)
theorem SA.new {w W W' : World} (hx : Ext None_ w W) (hb : Blk W' W.heap.size (List.replicate 25 (Value.slice none 0 0)).toArray 44) : SA w W' W.heap.size (List.replicate 25 (Value.slice none 0 0)) (fun _ _ => []) := by
  have hz : ∀ (i : Nat) (r : Value), (List.replicate 25 (Value.slice none 0 0))[i]? = some r → r = .slice none 0 0 := fun i r h => List.eq_of_mem_replicate (List.mem_of_getElem? h)
  refine ⟨hb, by simp, hx.size, fun a b ha hb => ⟨.slice none 0 0, by rw [List.getElem?_replicate, if_pos (by omega)], Own.nil _ _ _ _⟩, fun i j r s k h1 _ h3 _ => ?_, fun i r k h1 h2 => ?_⟩
  · rw [hz i r h1] at h3; simp [Value.ownBlock] at h3
  · rw [hz i r h1] at h2; simp [Value.ownBlock] at h2
section
variable {w W W1 W2 : World} {b9 a b : Nat} {cs : List Value} {S : Nat → Nat → List Int} {r r' : Value} {l' : List Int}
theorem SA.lt (h : SA w W b9 cs S) {k : Nat} (hk : k ∈ psOf b9 cs) : k < W.heap.size := by
  rcases mem_ps.1 hk with rfl | ⟨i, r, hr, hk⟩
  · exact h.blk.lt
  · have hi := (List.getElem?_eq_some_iff.1 hr).1
    rw [h.len] at hi
    obtain ⟨r2, hr2, ho⟩ := h.row (i / 5) (i % 5) (by omega) (by omega)
    rw [show i / 5 * 5 + i % 5 = i by omega, hr] at hr2
    cases hr2
    exact ho.lt k hk
/-- One of the rows is another one. -/
theorem SA.put (h : SA w W b9 cs S) (hw : w.heap.size ≤ W.heap.size) (ha : a < 5) (hb : b < 5) (hr : cs[a * 5 + b]? = some r) (hx1 : Ext (fun k => r.ownBlock = some k) W W1) (ho : Own W1 3 1 (fun k => r.ownBlock = some k ∨ W.heap.size ≤ k) r' l'.length (I8 l'))
    (hx2 : Ext (fun k => k = b9) W1 W2) (hb2 : Blk W2 b9 (cs.set (a * 5 + b) r').toArray 44) : SA w W2 b9 (cs.set (a * 5 + b) r') (updS S a b l') := by
  have hrp : ∀ k, r.ownBlock = some k → k ∈ psOf b9 cs := fun k hk => mem_ps.2 (.inr ⟨_, r, hr, hk⟩)
  have hi : a * 5 + b < cs.length := by rw [h.len]; omega
  have hlt := h.blk.lt
  have hfar' : ∀ k, r'.ownBlock = some k → k ≠ b9 := fun k hk => by
    rcases ho.blk k hk with e | e
    · exact h.far _ r k hr e
    · omega
  have hdis' : ∀ (j : Nat) (s : Value) (k : Nat), j ≠ a * 5 + b → cs[j]? = some s → s.ownBlock = some k → r'.ownBlock = some k → False := fun j s k hj hs hk hk' => by
    rcases ho.blk k hk' with e | e
    · exact hj (h.dis j (a * 5 + b) s r k hs hr hk e)
    · have := h.lt (mem_ps.2 (.inr ⟨j, s, hs, hk⟩)); omega
  have hget : ∀ (j : Nat) (s : Value), (cs.set (a * 5 + b) r')[j]? = some s → (j = a * 5 + b ∧ s = r') ∨ (j ≠ a * 5 + b ∧ cs[j]? = some s) := fun j s hs => by
    rw [List.getElem?_set] at hs
    split at hs
    · next e =>
      try rw [if_pos hi] at hs
      cases hs
      exact .inl ⟨e.symm, rfl⟩
    · next e => exact .inr ⟨fun e2 => e e2.symm, hs⟩
  refine ⟨hb2, by rw [List.length_set]; exact h.len, h.ge, fun x y hx hy => ?_, fun i j s t k h1 h2 h3 h4 => ?_, fun i s k h1 h2 => ?_⟩
  · unfold updS
    by_cases e : x = a ∧ y = b
    · obtain ⟨rfl, rfl⟩ := e
      rw [if_pos ⟨rfl, rfl⟩]
      refine ⟨r', by rw [List.getElem?_set, if_pos rfl, if_pos hi], (ho.ext hx2 (fun k hk e => hfar' k hk e)).mono (fun k _ e => ?_)⟩
      rcases e with e | e
      · obtain ⟨r2, hr2, ho2⟩ := h.row x y hx hy
        rw [hr] at hr2
        cases hr2
        exact ho2.blk k e
      · exact Nat.le_trans hw e
    · rw [if_neg e]
      obtain ⟨s, hs, ho2⟩ := h.row x y hx hy
      refine ⟨s, by rw [List.getElem?_set, if_neg (by omega)]; exact hs, (ho2.ext hx1 (fun k hk e2 => ?_)).ext hx2 (fun k hk e2 => h.far _ s k hs hk e2)⟩
      have := h.dis _ _ s r k hs hr hk e2
      omega
  · rcases hget i s h1 with ⟨e1, e2⟩ | ⟨e1, e2⟩
    · rcases hget j t h2 with ⟨e3, e4⟩ | ⟨e3, e4⟩
      · omega
      · exact (hdis' j t k e3 e4 h4 (e2 ▸ h3)).elim
    · rcases hget j t h2 with ⟨e3, e4⟩ | ⟨e3, e4⟩
      · exact (hdis' i s k e1 e2 h3 (e4 ▸ h4)).elim
      · exact h.dis i j s t k e2 e4 h3 h4
  · rcases hget i s h1 with ⟨e1, e2⟩ | ⟨e1, e2⟩
    · exact hfar' k (e2 ▸ h2)
    · exact h.far i s k e2 h2
/-- And the net beside it. -/
theorem LN.put {g m : Nat} {N : NS} (h : SA w W b9 cs S) (hn : LN w (psOf b9 cs) g N m W) (ha : a < 5) (hb : b < 5) (hr : cs[a * 5 + b]? = some r) (hx1 : Ext (fun k => r.ownBlock = some k) W W1) (ho : Own W1 3 1 (fun k => r.ownBlock = some k ∨ W.heap.size ≤ k) r' l'.length (I8 l'))
    (hx2 : Ext (fun k => k = b9) W1 W2) : LN w (psOf b9 (cs.set (a * 5 + b) r')) g N m W2 := by
  obtain ⟨M, C, h1, h2, h3, h4, h5⟩ := hn
  have hrp : ∀ k, r.ownBlock = some k → k ∈ psOf b9 cs := fun k hk => mem_ps.2 (.inr ⟨_, r, hr, hk⟩)
  have hb9 : b9 ∈ psOf b9 cs := mem_ps.2 (.inl rfl)
  have hge : ∀ k, k ∈ psOf b9 cs → w.heap.size ≤ k := fun k hk => by
    rcases mem_ps.1 hk with rfl | ⟨i, s, hs, hk⟩
    · exact h.ge
    · have hi := (List.getElem?_eq_some_iff.1 hs).1
      rw [h.len] at hi
      obtain ⟨r2, hr2, ho⟩ := h.row (i / 5) (i % 5) (by omega) (by omega)
      rw [show i / 5 * 5 + i % 5 = i by omega, hs] at hr2
      cases hr2
      exact ho.blk k hk
  have s1 := hx1.size
  have s2 := hx2.size
  refine ⟨M, C, (h1.ext hx1 (fun k hk e => (h5 k (hrp k e)).2.1 hk) (fun k hk e => (h5 k (hrp k e)).2.2 hk)).ext hx2 (fun k hk e => (h5 b9 hb9).2.1 (e ▸ hk)) (fun k hk e => (h5 b9 hb9).2.2 (e ▸ hk)), (h2.trans hx1 (fun k hk e => absurd (hge k (hrp k e)) (Nat.not_le.2 hk))).trans hx2 (fun k hk e => by have e : k = b9 := e; have := h.ge; omega), h3, h4, fun k hk => ?_⟩
  have hold : ∀ k, k ∈ psOf b9 cs → k < W2.heap.size ∧ ¬ M k ∧ ¬ C k := fun k hk => ⟨by have := (h5 k hk).1; omega, (h5 k hk).2⟩
  rcases mem_ps.1 hk with rfl | ⟨i, s, hs, hk⟩
  · exact hold _ hb9
  · rw [List.getElem?_set] at hs
    split at hs
    · split at hs
      · cases hs
        have hl := ho.lt k hk
        rcases ho.blk k hk with e | e
        · exact hold k (hrp k e)
        · exact ⟨by omega, fun e2 => by have := h1.mlt k e2; omega, fun e2 => by have := h1.clt k e2; omega⟩
      · cases hs
    · exact hold k (mem_ps.2 (.inr ⟨i, s, hs, hk⟩))
end
end Go.Proofs.Ythjabbheobpoeaa
