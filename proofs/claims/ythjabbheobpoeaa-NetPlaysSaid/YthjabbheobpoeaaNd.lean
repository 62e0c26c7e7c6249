/- Package net: operations of drawn regions (cuts, look-ups, stores into a map, appends of messages). -/
import Derived.Test.YthjabbheobpoeaaNc
set_option linter.unusedVariables false
set_option linter.unusedSimpArgs false
namespace Go.Proofs.Ythjabbheobpoeaa
open Go.RowKit B
theorem wpApp {P : Program} {w : World} {o : Oper} {a : Act} {K : Act → World → Prop} {Q : Exit → Act → World → Prop} (s x : Operand) (t : TypeId)
    (ho : o.op = .call { callee := .builtin .append, args := #[s, x], argTypes := #[t, t] })
    (e : TypeId) (z : Value) (size bytes : Nat) (ht : P.underlying t = some (.slice e)) (hinfo : (P.info? e).map (fun i => (i.zero, i.size, i.bytes)) = some (some z, size, bytes)) (hzs : z.cells.size = size) (hsz : 0 < size) (hb0 : 0 < bytes)
    (ok : Nat → Prop) (v : Value) (n : Nat) (xs : List Value) (hs : a.eval s = v) (hown : Own w e size ok v n xs)
    (A : Option Addr) (m c : Nat) (news : List Value) (hx : a.eval x = .slice A m c) (hl : news.length = m * size) (hnews : Row w A news) (h1 : ∀ u ∈ news, u.oneCell' = true)
    (hbytes : (n + m) * bytes ≤ 140737488355328)
    (h : ∀ v' w', Own w' e size (fun k => v.ownBlock = some k ∨ w.heap.size ≤ k) v' (n + m) (xs ++ news) → Ext (fun k => v.ownBlock = some k) w w' → K (a.put o.dst v') w') : o.wp P a w K Q := by
  obtain ⟨i0, hi, hzz⟩ := Option.map_eq_some_iff.1 hinfo
  simp only [Prod.mk.injEq] at hzz
  obtain ⟨hz0, hz1, hz2⟩ := hzz
  have hlen : n + m ≤ 140737488355328 := Nat.le_trans (Nat.le_mul_of_pos_right _ hb0) hbytes
  cases A with
  | none =>
    have hn : news = [] := by
      cases news with
      | nil => rfl
      | cons u r =>
        obtain ⟨ad, e, _⟩ := hnews 0 u rfl
        cases e
    subst hn
    have hm : m = 0 := by
      rcases Nat.eq_zero_or_pos m with hm | hm
      · exact hm
      · have := Nat.mul_pos hm hsz
        simp at hl
        omega
    subst hm
    have hrun : (Builtin.append_ #[t, t] o.type #[v, .slice none 0 c]).run P w = .ok v w := by
      rcases hown.own.2 with ⟨rfl, rfl⟩ | ⟨g, cap, cur, rfl, _, _, hnc, _⟩
      · simp [Builtin.append_, run_underlying ht, sizeOf, typeInfo, hi, Builtin.lenOf, Builtin.firstCells]
      · simp [Builtin.append_, run_underlying ht, sizeOf, typeInfo, hi, Builtin.lenOf, Builtin.firstCells, hnc, storeCells]
    unfold Oper.wp
    simp [execOp, ho, resolve, invoke, builtin, hs, hx, hrun, Result.andThen]
    exact h v w (by simpa using hown.mono1) (Ext.refl _ _)
  | some ad =>
    obtain ⟨v', w', hr, h2, h3, h4, h5⟩ := run_append_own_at (P := P) w 0 t o.type e i0 z size bytes ht hi hz0 hz1 hz2 hzs hsz v n xs hown.own ad m c news hl (fun j u hj => by
      obtain ⟨ad', e, hc⟩ := hnews j u hj
      cases e
      exact hc) h1 (by simp only [maxLen]; omega) hbytes (Nat.zero_le _)
    unfold Oper.wp execOp
    simp only [ho, resolve, invoke, builtin, Sem.run_bind, Sem.run_pure, Result.andThen_ok, List.map_toArray, List.map_cons, List.map_nil, hs, hx, hr]
    refine h v' w' ⟨h2, fun k hk => ?_⟩ ((Ext.refl _ _).grown h3 (fun k hk => .inl hk))
    rcases h5 with hat | hat
    · exact .inl (hat ▸ hk)
    · rw [hat] at hk
      cases hk
      exact .inr (Nat.le_refl _)
theorem opSliceOp {P : Program} {o : Oper} {a : Act} {w : World} {K : Act → World → Prop} {Q : Exit → Act → World → Prop} {p : Value → World → Prop} (hK : ∀ v w', p v w' → Ext None_ w w' → K (a.put o.dst v) w') {t : TypeId} {x : Operand} {l h m : Option Operand} (ho : o.op = .slice t x l h m) {v : Value} {vx : Value} {vl vh vm : Option Value} (hx : a.eval x = vx) (hl : l.map a.eval = vl) (hh : h.map a.eval = vh) (hm : m.map a.eval = vm) {e : TypeId} (ht : P.underlying t = some (.slice e)) (hr : ∀ W : World, (Instr.slice t vx vl vh vm).run P W = .ok v W) (hp : p v w) : o.wp P a w K Q := by
  refine opVal hK ?_ hp
  unfold execOp
  have h2 : Sem.run P (Instr.sliceAt t vx vl vh vm) w = .ok v w := by
    unfold Instr.sliceAt
    rw [Sem.run_bind, run_underlying ht w]
    exact hr w
  simp only [ho, hx, hl, hh, hm]
  simp [h2]
theorem opLookup {P : Program} {o : Oper} {a : Act} {w : World} {K : Act → World → Prop} {Q : Exit → Act → World → Prop} {p : Value → World → Prop} (hK : ∀ v w', p v w' → Ext None_ w w' → K (a.put o.dst v) w') {t : TypeId} {x y : Operand} (ho : o.op = .lookup t x y false) {vx vy v : Value} (hx : a.eval x = vx) (hy : a.eval y = vy) (hr : (Instr.lookup t vx vy false).run P w = .ok v w) (hp : p v w) : o.wp P a w K Q := by
  refine opVal hK ?_ hp
  unfold execOp
  simp only [ho, hx, hy]
  simp [hr]
section
variable {P : Program} {Q : Exit → Act → World → Prop} {o : Oper} {a : Act} {w : World} {K : Act → World → Prop} {p : Value → World → Prop} {I : World → Prop} {X : World → World → Prop}
theorem opPutC (hK : ∀ v w', p v w' → I w' → X w w' → K (a.put o.dst v) w') {t : TypeId} {x y z : Operand} (ho : o.op = .mapUpdate t x y z) {vx vy vz : Value} (hx : a.eval x = vx) (hy : a.eval y = vy) (hz : a.eval z = vz) {w' : World} (hr : (Instr.mapUpdate t vx vy vz).run P w = .ok () w') (hp : p undef w') (hi : I w') (hxx : X w w') : o.wp P a w K Q := by
  have hr : (execOp a.eval o).run P w = .ok .skip w' := by
    unfold execOp
    simp only [ho, hx, hy, hz]
    simp [hr]
  unfold Oper.wp
  rw [hr]
  exact hK undef w' hp hi hxx
theorem opEntryC (hK : ∀ v w', p v w' → I w' → X w w' → K (a.put o.dst v) w') {t : TypeId} {x y : Operand} (ho : o.op = .mapEntry t x y) {vx vy v : Value} (hx : a.eval x = vx) (hy : a.eval y = vy) {w' : World} (hr : (Instr.mapEntry t vx vy).run P w = .ok v w') (hp : p v w') (hi : I w') (hxx : X w w') : o.wp P a w K Q := by
  refine opRunC hK (v := v) (w' := w') ?_ hp hi hxx
  unfold execOp
  simp only [ho, hx, hy]
  simp [hr]
theorem opEntryStoreC (hK : ∀ v w', p v w' → I w' → X w w' → K (a.put o.dst v) w') {t : TypeId} {x y z : Operand} (ho : o.op = .entryStore t x y z) {vx vy vz : Value} (hx : a.eval x = vx) (hy : a.eval y = vy) (hz : a.eval z = vz) {w' : World} (hr : (Instr.entryStore t vx vy vz).run P w = .ok () w') (hp : p undef w') (hi : I w') (hxx : X w w') : o.wp P a w K Q := by
  have hr : (execOp a.eval o).run P w = .ok .skip w' := by
    unfold execOp
    simp only [ho, hx, hy, hz]
    simp [hr]
  unfold Oper.wp
  rw [hr]
  exact hK undef w' hp hi hxx
end
/-- append of messages. -/
theorem wpAppM {w : World} {o : Oper} {a : Act} {K : Act → World → Prop} {Q : Exit → Act → World → Prop} (s x : Operand) (ho : o.op = .call { callee := .builtin .append, args := #[s, x], argTypes := #[45, 45] })
    (ok : Nat → Prop) (v : Value) (n : Nat) (xs : List Value) (hs : a.eval s = v) (hown : Own w 28 10 ok v n xs)
    (A : Option Addr) (m c : Nat) (news : List Value) (hx : a.eval x = .slice A m c) (hl : news.length = m * 10) (hnews : Row w A news) (h1 : ∀ u ∈ news, u.oneCell' = true) (hb : n + m ≤ 1000000)
    (h : ∀ v' w', Own w' 28 10 (fun k => v.ownBlock = some k ∨ w.heap.size ≤ k) v' (n + m) (xs ++ news) → Ext (fun k => v.ownBlock = some k) w w' → K (a.put o.dst v') w') : o.wp Try.prog a w K Q :=
  wpApp s x 45 ho 28 _ 10 104 Try.underlying45 infoMsg rfl (by decide) (by decide) ok v n xs hs hown A m c news hx hl hnews h1 (by omega) h
theorem msgsV_take (l : List Msg) (pv : List (Option Addr × Nat)) (i : Nat) (h : pv.length = l.length) : (msgsV l pv).take (i * 10) = msgsV (l.take i) (pv.take i) := by
  have e : msgsV l pv = msgsV (l.take i) (pv.take i) ++ msgsV (l.drop i) (pv.drop i) := by
    conv => lhs; rw [← List.take_append_drop i l, ← List.take_append_drop i pv]
    rw [msgsV_append _ _ _ _ (by simp [h])]
  rw [e]
  by_cases hi : i ≤ l.length
  · rw [List.take_left' (by rw [msgsV_length _ _ (by simp [h]), List.length_take]; omega)]
  · have : (msgsV (l.take i) (pv.take i)).length ≤ i * 10 := by rw [msgsV_length _ _ (by simp [h]), List.length_take]; omega
    rw [List.take_of_length_le]
    · rw [List.drop_eq_nil_of_le (by omega : l.length ≤ i)]
      simp [msgsV]
    · rw [List.length_append, List.drop_eq_nil_of_le (by omega : l.length ≤ i)]
      simpa [msgsV] using this
theorem msgsV_drop (l : List Msg) (pv : List (Option Addr × Nat)) (i : Nat) (h : pv.length = l.length) : (msgsV l pv).drop (i * 10) = msgsV (l.drop i) (pv.drop i) := by
  have e : msgsV l pv = msgsV (l.take i) (pv.take i) ++ msgsV (l.drop i) (pv.drop i) := by
    conv => lhs; rw [← List.take_append_drop i l, ← List.take_append_drop i pv]
    rw [msgsV_append _ _ _ _ (by simp [h])]
  by_cases hi : i ≤ l.length
  · rw [e, List.drop_left' (by rw [msgsV_length _ _ (by simp [h]), List.length_take]; omega)]
  · rw [List.drop_eq_nil_of_le (by rw [msgsV_length _ _ h]; omega), List.drop_eq_nil_of_le (by omega : l.length ≤ i)]
    simp [msgsV]
end Go.Proofs.Ythjabbheobpoeaa
