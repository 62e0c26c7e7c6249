/- The document's disk, walked: Cut. -/
import Derived.Test.YtakcdmmniaipeaaRd4
set_option linter.unusedVariables false
set_option linter.unusedSimpArgs false
namespace Go.Proofs.Ytakcdmmniaipeaa
open Go.RowKit B
/-- append to a new slice that is empty: nothing that was there is written. -/
theorem wpApp0 {P : Program} {w : World} {o : Oper} {a : Act} {K : Act → World → Prop} {Q : Exit → Act → World → Prop} (s x : Operand) (t : TypeId)
    (ho : o.op = .call { callee := .builtin .append, args := #[s, x], argTypes := #[t, t] })
    (e : TypeId) (z : Value) (size bytes : Nat) (ht : P.underlying t = some (.slice e)) (hinfo : (P.info? e).map (fun i => (i.zero, i.size, i.bytes)) = some (some z, size, bytes)) (hzs : z.cells.size = size) (hsz : 0 < size) (hb0 : 0 < bytes)
    (ok : Nat → Prop) (b : Nat) (hs : a.eval s = .slice (some ⟨b, 0, none⟩) 0 0) (hown : Own w e size ok (.slice (some ⟨b, 0, none⟩) 0 0) 0 [])
    (A : Option Addr) (m c : Nat) (news : List Value) (hx : a.eval x = .slice A m c) (hl : news.length = m * size) (hnews : Row w A news) (h1 : ∀ u ∈ news, u.oneCell' = true)
    (hbytes : m * bytes ≤ 140737488355328)
    (h : ∀ v' w', Own w' e size (fun k => ok k ∨ w.heap.size ≤ k) v' m news → Ext None_ w w' → K (a.put o.dst v') w') : o.wp P a w K Q := by
  obtain ⟨i, hi, hzz⟩ := Option.map_eq_some_iff.1 hinfo
  simp only [Prod.mk.injEq] at hzz
  obtain ⟨hz, hsize, hby⟩ := hzz
  have hm : m ≤ 140737488355328 := Nat.le_trans (Nat.le_mul_of_pos_right _ hb0) hbytes
  by_cases h0 : m = 0
  · subst h0
    obtain rfl : news = [] := List.eq_nil_of_length_eq_zero (by simpa using hl)
    have hrun : (Builtin.append_ #[t, t] o.type #[.slice (some ⟨b, 0, none⟩) 0 0, .slice A 0 c]).run P w = .ok (.slice (some ⟨b, 0, none⟩) 0 0) w := by
      cases A <;> simp [Builtin.append_, run_underlying ht, sizeOf, typeInfo, hi, Builtin.lenOf, Builtin.firstCells, storeCells, loadCells, loadCellsFrom]
    unfold Oper.wp
    simp [execOp, ho, resolve, invoke, builtin, hs, hx, hrun, Result.andThen]
    exact h _ w (hown.mono (fun k _ h => .inl h)) (Ext.refl _ _)
  · have hlp : 0 < news.length := by rw [hl]; exact Nat.mul_pos (by omega) hsz
    obtain ⟨ad, rfl⟩ := hnews.some hlp
    subst hsize
    subst hby
    have hr := run_append_grow (P := P) w t o.type e i z ht hi hz ⟨b, 0, none⟩ 0 0 [] (by simp) (fun j v hj => by simp at hj) ad m c news hl (fun j v hj => by
      obtain ⟨ad', e', hc⟩ := hnews j v hj
      cases e'
      exact hc) (by omega) (by omega) (growslice_fits (by omega) (by simpa using hbytes))
    simp only [Nat.zero_add, Array.empty_append] at hr
    have hge := grownCap_ge w m 0 e
    have hcm : grownCap w m 0 e ≤ maxLen := grownCap_le_maxLen w m 0 e (by simp only [maxLen]; omega)
    unfold Oper.wp execOp
    simp only [ho, resolve, invoke, builtin, Sem.run_bind, Sem.run_pure, Result.andThen_ok, List.map_toArray, List.map_cons, List.map_nil, hs, hx, hr]
    refine h _ _ ⟨⟨hl, .inr ⟨w.heap.size, _, _, rfl, Nat.zero_le _, heap_alloc_new w.drew _, hge, hcm, ?_, ?_⟩⟩, fun k hk => ?_⟩ ((Ext.refl None_ w).drew.alloc _)
    · simp only [Array.size_append, List.size_toArray, size_zeroCells, hzs, hl, ← Nat.add_mul, List.length_nil, Nat.zero_add]
      congr 1
      omega
    · simp only [Array.toList_append, List.append_assoc, List.nil_append]
      rw [← hl]
      exact List.take_left
    · simp [Value.ownBlock] at hk
      exact .inr (by omega)
theorem wpList_app0 {P : Program} {w : World} {ops : Array Oper} {rest : List Oper} {o : Oper} {a : Act} {Q : Exit → Act → World → Prop} (hgd : o.guard = none) (s x : Operand) (t : TypeId)
    (ho : o.op = .call { callee := .builtin .append, args := #[s, x], argTypes := #[t, t] })
    (e : TypeId) (z : Value) (size bytes : Nat) (ht : P.underlying t = some (.slice e)) (hinfo : (P.info? e).map (fun i => (i.zero, i.size, i.bytes)) = some (some z, size, bytes)) (hzs : z.cells.size = size) (hsz : 0 < size) (hb0 : 0 < bytes)
    (ok : Nat → Prop) (b : Nat) (hs : a.eval s = .slice (some ⟨b, 0, none⟩) 0 0) (hown : Own w e size ok (.slice (some ⟨b, 0, none⟩) 0 0) 0 [])
    (A : Option Addr) (m c : Nat) (news : List Value) (hx : a.eval x = .slice A m c) (hl : news.length = m * size) (hnews : Row w A news) (h1 : ∀ u ∈ news, u.oneCell' = true)
    (hbytes : m * bytes ≤ 140737488355328)
    (h : ∀ v' w', Own w' e size (fun k => ok k ∨ w.heap.size ≤ k) v' m news → Ext None_ w w' → wpList P ops Q rest (a.put o.dst v') w') : wpList P ops Q (o :: rest) a w :=
  wpList_plain hgd fun _ hK => wpApp0 s x t ho e z size bytes ht hinfo hzs hsz hb0 ok b hs hown A m c news hx hl hnews h1 hbytes fun v' w' h1 h2 => hK _ _ (h v' w' h1 h2)
theorem infoRch : (Try.prog.info? 109).map (fun i => (i.zero, i.size, i.bytes)) = some (some (.agg #[.int .i64 0, .int .i64 0, .int .i64 0, .slice none 0 0]), 4, 48) := by kernel_rfl
theorem rch_slice (x y z : Int) (A : Option Addr) (n c : Nat) (W : World) : (Instr.buildSlice 89 1 #[(0, .agg #[.int .i64 x, .int .i64 y, .int .i64 z, .slice A n c])]).run Try.prog W = .ok (.slice (some ⟨W.heap.size, 0, none⟩) 1 1) (W.alloc (.cells #[.int .i64 x, .int .i64 y, .int .i64 z, .slice A n c] 109)) := by
  obtain ⟨ie, hi, hz0, hz1, hz2⟩ := info_parts infoRch
  exact run_buildSlice W 89 109 1 _ _ ie _ Try.underlying89 hi hz0 (by rw [hz1]; decide) (by rw [hz1]; decide) (by rw [hz1]; kernel_rfl)
theorem rch_slice0 (W : World) : (Instr.buildSlice 89 0 #[]).run Try.prog W = .ok (.slice (some ⟨W.heap.size, 0, none⟩) 0 0) (W.alloc (.cells #[] 109)) := by
  obtain ⟨ie, hi, hz⟩ := Option.map_eq_some_iff.1 infoRch
  simp [Instr.buildSlice, run_underlying (P := Try.prog) Try.underlying89, sizeOf, typeInfo, hi, newRow, Instr.fill]
  rw [show Array.range 0 = #[] from Array.eq_empty_of_size_eq_zero (by simp), Array.map_empty]
theorem rch_one {w : World} {Z : Nat → Prop} {c : Chg} {u : Value} (hu : Sl w Z u c.p) : ∀ x ∈ rch c u, x.oneCell' = true := by
  intro x hx
  simp only [rch, List.mem_cons, List.not_mem_nil, or_false] at hx
  rcases hx with rfl | rfl | rfl | rfl
  · rfl
  · rfl
  · rfl
  · exact hu.one
theorem rchs_one {w : World} {Z : Nat → Prop} {ch : List Chg} {pv : List Value} (hl : pv.length = ch.length) (hs : ∀ (i : Nat) (c : Chg) (u : Value), ch[i]? = some c → pv[i]? = some u → Sl w Z u c.p) : ∀ x ∈ rchs ch pv, x.oneCell' = true := by
  intro x hx
  obtain ⟨⟨c, u⟩, hm, hx⟩ := List.mem_flatMap.1 hx
  obtain ⟨i, hi⟩ := List.getElem?_of_mem hm
  rw [List.getElem?_zip_eq_some] at hi
  exact rch_one (hs i c u hi.1 hi.2) x hx
/-- A row behind which a change was appended. -/
theorem rw_app {w W : World} {Z : Nat → Prop} {ch : List Chg} {pv : List Value} {c : Chg} {uc u : Value} {ok : Nat → Prop} {n : Nat} (hx : Ext None_ w W) (hl : pv.length = ch.length) (hs : ∀ (i : Nat) (c : Chg) (u : Value), ch[i]? = some c → pv[i]? = some u → Sl w Z u c.p) (hu : Sl W (Zx w Z) uc c.p) (ho : Own W n 4 ok u (ch.length + 1) (rchs ch pv ++ rch c uc)) (hz : ∀ k, ok k → w.heap.size ≤ k) : RW W (Zx w Z) u (ch ++ [c]) := by
  have e : rchs ch pv ++ rch c uc = rchs (ch ++ [c]) (pv ++ [uc]) := by
    rw [rchs_append _ _ _ _ hl]
    simp [rchs]
  rw [e] at ho
  refine RW.own (pv := pv ++ [uc]) (n := n) (ok := ok) (by rw [List.length_append, List.length_singleton]; exact ho) (by simp [hl]) (fun i q v h1 h2 => ?_) (fun k _ h => .inr (hz k h))
  by_cases hi : i < ch.length
  · rw [List.getElem?_append_left hi] at h1
    rw [List.getElem?_append_left (by omega)] at h2
    exact ((hs i q v h1 h2).ext hx (fun _ _ a => a)).mono (fun k _ h => .inl h)
  · have hi2 : i = ch.length := by
      have := (List.getElem?_eq_some_iff.1 h1).1
      simp at this
      omega
    subst hi2
    rw [List.getElem?_append_right (Nat.le_refl _), Nat.sub_self] at h1
    rw [List.getElem?_append_right (by omega), hl, Nat.sub_self] at h2
    cases h1
    cases h2
    exact hu
theorem RefAt.setWait {w W : World} {Z : Nat → Prop} {g : Nat} {D : DS} {u : Value} {ch : List Chg} (h : RefAt w Z g D) (hx : Ext None_ w W) (hu : RW W (Zx w Z) u ch) : RefAt (W.setCell ⟨g, 1, none⟩ u) (Zr W (Zx w Z)) g { D with wait := ch } ∧ Ext (fun k => k = g) w (W.setCell ⟨g, 1, none⟩ u) ∧ (W.cell? ⟨g, 1, none⟩).isSome = true ∧ W.frozen? ⟨g, 1, none⟩ = false := by
  have hgl := h.lt
  have h' := h.ext0 hx
  obtain ⟨⟨fv, wv, h1, h2, h3⟩, h4, h5⟩ := h'
  have he : Ext (fun k => k = g) W (W.setCell ⟨g, 1, none⟩ u) := (Ext.refl (fun k => k = g) W).setCell (p := ⟨g, 1, none⟩) (Or.inl rfl) _
  have hn : ∀ k, Zr W (Zx w Z) k → ¬ k = g := fun k hk e => by
    subst e
    rcases hk.1 with h | h
    · exact h4 h
    · omega
  have hs := he.size
  exact ⟨⟨⟨fv, u, h1.set 1 u, (h2.mono (fun k hk h => ⟨.inl h, hk⟩)).ext he hn, (hu.mono (fun k hk h => ⟨h, hk⟩)).ext he hn⟩, fun h => hn g h rfl, fun k hk => Nat.lt_of_lt_of_le hk.2 hs⟩, (hx.mono (fun _ _ a => a.elim)).trans he (fun _ _ h => h), by rw [h1.cell]; rfl, h1.frozen 1⟩
end Go.Proofs.Ytakcdmmniaipeaa
