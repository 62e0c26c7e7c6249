/- The document's net: what a round of Send leaves; a load of a struct anywhere in its block. -/
import Derived.Test.YthjabbheobpoeaaRh
import Derived.Test.YthjabbheobpoeaaNh
set_option linter.unusedVariables false
set_option linter.unusedSimpArgs false
namespace Go.Proofs.Ythjabbheobpoeaa
open Go.RowKit B
theorem rsend_fin {wr w9 w2 : World} {M C : Nat → Prop} {g x y n c c' : Nat} {N : NS} {q : Msg} {A A' : Option Addr} {u : Value} {pv : List (Option Addr × Nat)} (h : RNAt wr M C g N) (hx : x < 7) (hy : y < 7) (hqx : q.f = x) (hqy : q.t = y) (hq : thereB N x y = true ∧ N.cut x y = 0 ∧ (N.wait x y).length < 64) (hel : q.es.length ≤ 5864062014805)
    (hc1 : wr.cell? ⟨g, 1 + x * 7 + y, none⟩ = some (.slice A n c)) (hn : n = (N.wait x y).length) (hpv : pv.length = (N.wait x y).length) (hrM : ∀ k, (Value.slice A n c).ownBlock = some k → M k)
    (hent : ∀ (i : Nat) (q2 : Msg) (p : Option Addr × Nat), (N.wait x y)[i]? = some q2 → pv[i]? = some p → q2.es.length ≤ 5864062014805 ∧ Row wr p.1 (entV q2.es) ∧ ∀ ad, p.1 = some ad → 0 < q2.es.length → C ad.block)
    (h9 : Ext None_ wr w9) (hu : Own w2 28 10 (fun k => (Value.slice A n c).ownBlock = some k ∨ w9.heap.size ≤ k) u (n + 1) (msgsV (N.wait x y) pv ++ (msgC q A' c').toList)) (hE : Own w9 72 2 (fun k => wr.heap.size ≤ k) (.slice A' q.es.length c') q.es.length (entV q.es)) (hxx : Ext (fun k => (Value.slice A n c).ownBlock = some k) w9 w2) :
    RLeftN wr (w2.setCell ⟨g, 1 + x * 7 + y, none⟩ u) M C g (send1 N q) ∧ (w2.cell? ⟨g, 1 + x * 7 + y, none⟩).isSome = true ∧ w2.frozen? ⟨g, 1 + x * 7 + y, none⟩ = false := by
  have hs : send1 N q = { N with wait := updW N.wait x y (N.wait x y ++ [q]) } := by
    unfold send1
    rw [hqx, hqy, if_pos hq]
  rw [hs]
  have hz9 := h9.size
  have hz2 := hxx.size
  have hX : Ext (fun k => (Value.slice A n c).ownBlock = some k) wr w2 := (h9.mono (fun _ _ e => e.elim)).trans hxx (fun k _ e => e)
  have hElt : ∀ k, (Value.slice A' q.es.length c').ownBlock = some k → wr.heap.size ≤ k ∧ k < w9.heap.size := fun k e => ⟨hE.blk k e, hE.lt k e⟩
  have hul : ∀ k, u.ownBlock = some k → M k ∨ w9.heap.size ≤ k := fun k e => (hu.blk k e).imp (hrM k) id
  refine h.put hx hy hq.1 hc1 hX (C1 := fun k => C k ∨ (Value.slice A' q.es.length c').ownBlock = some k) ?_ (fun k e => .inl e) (fun k e => e.imp id (fun e => (hElt k e).1)) (fun k e => ?_) (fun k e e2 => ?_) (by rw [List.length_append, List.length_singleton]; omega)
  · refine ⟨pv ++ [(A', c')], by simp [hpv], ?_, fun i q2 p h1 h2 => ?_⟩
    · rw [msgsV_append _ _ _ _ hpv, List.length_append, List.length_singleton, ← hn]
      have e : msgsV [q] [(A', c')] = (msgC q A' c').toList := by simp [msgsV]
      rw [e]
      exact ⟨hu.own, fun k hk => (hu.blk k hk).imp id (fun e => by omega)⟩
    · by_cases hi : i < (N.wait x y).length
      · rw [List.getElem?_append_left hi] at h1
        rw [List.getElem?_append_left (by omega)] at h2
        obtain ⟨b1, b2, b3⟩ := hent i q2 p h1 h2
        exact ⟨b1, rowE b2 hX (fun ad e hl2 e2 => h.apart _ (b3 ad e hl2) (hrM _ e2)), fun ad e hl2 => .inl (b3 ad e hl2)⟩
      · rw [List.getElem?_append_right (by omega)] at h1
        rw [List.getElem?_append_right (by omega), hpv] at h2
        have hi2 : i - (N.wait x y).length = 0 := by
          have := (List.getElem?_eq_some_iff.1 h1).1
          simpa using this
        rw [hi2] at h1 h2
        cases h1
        cases h2
        obtain ⟨A2, c2, he, _, _, hr⟩ := hE.slice
        injection he with he _ _
        subst he
        exact ⟨hel, rowE hr hxx (fun ad e _ e2 => by
          have h3 := hElt ad.block (by subst e; rfl)
          have h4 := h.mlt _ (hrM _ e2)
          omega), fun ad e _ => .inr (by subst e; rfl)⟩
  · rcases e with e | e
    · have := h.clt k e
      omega
    · have := (hElt k e).2
      omega
  · rcases e with e | e
    · rcases hul k e2 with q2 | q2
      · exact h.apart k e q2
      · have := h.clt k e
        omega
    · have h3 := hElt k e
      rcases hul k e2 with q2 | q2
      · have := h.mlt k q2
        omega
      · omega
/-- A load of a struct at any address. -/
theorem wpList_load_adr {P : Program} {ops : Array Oper} {rest : List Oper} {o : Oper} {a : Act} {w : World} {Q : Exit → Act → World → Prop} (hgd : o.guard = none) (ty : TypeId) (x : Operand) (ho : o.op = .load ty x) (ad : Addr) (hx : a.eval x = .pointer (some ad)) (cs : List Value) {d : TypeDesc} (hc : ∀ j v, cs[j]? = some v → w.cell? (ad.add j) = some v)
    (hu : P.underlying ty = some d) (hd : d.isRow = true) (hi : (P.info? ty).map (·.size) = some cs.length) (h : wpList P ops Q rest (a.put o.dst (.agg cs.toArray)) w) : wpList P ops Q (o :: rest) a w :=
  wpList_plain hgd fun K hK => by
    have hagg : (isAgg ty).run P w = .ok true w := by
      unfold isAgg
      rw [Sem.run_bind, run_underlying hu w]
      cases d <;> simp_all [TypeDesc.isRow]
    obtain ⟨ie, hi1, hi2⟩ := Option.map_eq_some_iff.1 hi
    have hl := run_loadCells_list (P := P) (w := w) ad cs hc
    unfold Oper.wp execOp
    simp only [ho, hx]
    simp [Instr.loadAt, Instr.sureAddr, loadVar, Sem.run_bind, hagg, sizeOf, typeInfo, hi1, hi2, hl]
    exact hK _ _ h
end Go.Proofs.Ythjabbheobpoeaa
