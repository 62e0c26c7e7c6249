/- Package disk: a file set, a change appended. -/
import Derived.Test.YtghkgfeamijefaaDisk5
import Derived.Test.YtghkgfeamijefaaReg5
set_option linter.unusedVariables false
set_option linter.unusedSimpArgs false
namespace Go.Proofs.Ytghkgfeamijefaa
open Go.RowKit B
theorem infoChg : (Try.prog.info? 81).map (fun i => (i.zero, i.size, i.bytes)) = some (some (.agg #[.bool false, .int .i64 0, .int .i64 0, .slice none 0 0]), 4, 48) := by kernel_rfl
theorem Sl.one {w : World} {C : Nat → Prop} {v : Value} {l : List Int} (h : Sl w C v l) : v.oneCell' = true := by
  obtain ⟨A, c, rfl, _⟩ := h
  rfl
/-- Contents that are new. -/
theorem DiskAt.moreC {w w1 : World} {M C : Nat → Prop} {g : Nat} {D : DS} {v : Value} {l : List Int} (h : DiskAt w M C g D) (ho : OwnB w1 (fun k => w.heap.size ≤ k) v l) (hb : Byt l) (hx : Ext None_ w w1) : DiskAt w1 M (fun k => C k ∨ v.ownBlock = some k) g D ∧ Sl w1 (fun k => C k ∨ v.ownBlock = some k) v l := by
  have hv : ∀ k, v.ownBlock = some k → w.heap.size ≤ k := fun k hk => ho.blk k hk
  have hl : ∀ k, v.ownBlock = some k → k < w1.heap.size := fun k hk => Own.lt ho k hk
  obtain ⟨k, ⟨bf, bs, wv, a1, a2, a3, a4, a5, a6, a7⟩, k3, k4, k5⟩ := h.ext0 hx
  refine ⟨⟨k, ⟨bf, bs, wv, a1, a2.mono (fun _ _ h => .inl h), a3.mono (fun _ _ h => .inl h), a4.mono (fun _ _ h => .inl h) (fun _ _ h => h), a5, a6, a7⟩, fun q hq => ?_, k4, fun q hq => ?_⟩, ?_⟩
  · rcases hq with hq | hq
    · exact k3 q hq
    · intro hm
      have := h.mlt q hm
      have := hv q hq
      omega
  · rcases hq with hq | hq
    · exact k5 q hq
    · exact hl q hq
  · have h1 : OwnB w1 (fun k => v.ownBlock = some k) v l := ⟨ho.own, fun k e => e⟩
    exact Sl.own h1 hb (fun _ _ h => .inr h)
/-- A file is set. -/
theorem DiskAt.setFile {w : World} {M C : Nat → Prop} {g : Nat} {D : DS} {v : Value} {l : List Int} {bf bs : Nat} (h : DiskAt w M C g D) (c1 : w.cell? ⟨g, 1, none⟩ = some (.slice (some ⟨bf, 0, none⟩) 64 64)) (hv : Sl w C v l) (hl : l.length ≤ 1048576) (n : Nat) : DiskAt (w.setCell ⟨bf, n, none⟩ v) M C g { D with files := D.files.set n l } ∧ Ext M w (w.setCell ⟨bf, n, none⟩ v) := by
  obtain ⟨k, ⟨bf', bs', wv, a1, a2, a3, a4, a5, a6, a7⟩, k3, k4, k5⟩ := h
  have e1 := a1.cell 1
  rw [c1] at e1
  obtain rfl : bf = bf' := by simpa using e1
  have he : Ext (fun k => k = bf) w (w.setCell ⟨bf, n, none⟩ v) := (Ext.refl (fun k => k = bf) w).setCell (p := ⟨bf, n, none⟩) (Or.inl rfl) _
  have hC : ∀ k, C k → ¬ k = bf := fun k hk e => k3 k hk (e ▸ a6.2.1)
  refine ⟨⟨⟨k.q0, k.q1, by simp only [List.length_set]; exact k.f64, k.s64, fun m hm => ?_, k.sl, k.a0, k.a1, k.chg⟩, ⟨bf, bs', wv, a1.ext he a5.1, a2.set n v l (fun hc => hC _ hc rfl) hv, a3.ext he (fun e => a5.2.2 e.symm) hC, a4.ext he (fun k hk => (a7 k hk).2.1) hC, a5, a6, a7⟩, k3, fun k hk => Nat.lt_of_lt_of_le (k4 k hk) he.size, fun k hk => Nat.lt_of_lt_of_le (k5 k hk) he.size⟩, he.mono (fun k _ e => e ▸ a6.2.1)⟩
  rcases List.mem_or_eq_of_mem_set hm with hm | rfl
  · exact k.fl m hm
  · exact hl
theorem chg_one {w : World} {C : Nat → Prop} {c : Chg} {u : Value} (hu : Sl w C u c.p) : ∀ x ∈ chgV c u, x.oneCell' = true := by
  intro x hx
  simp only [chgV, List.mem_cons, List.not_mem_nil, or_false] at hx
  rcases hx with rfl | rfl | rfl | rfl
  · rfl
  · rfl
  · rfl
  · exact hu.one
theorem appC {w : World} {ops : Array Oper} {rest : List Oper} {o : Oper} {a : Act} {Q : Exit → Act → World → Prop} (hgd : o.guard = none) (s x : Operand)
    (ho : o.op = .call { callee := .builtin .append, args := #[s, x], argTypes := #[76, 76] }) (v : Value) (ch : List Chg) (c : Chg) (u : Value) {C M : Nat → Prop} (hs : a.eval s = v) (hw : Wts w C M v ch) (A : Option Addr) (hx : a.eval x = .slice A 1 1) (hb : Row w A (chgV c u)) (hu : Sl w C u c.p) (hC : ∀ k, C k → ¬ v.ownBlock = some k) (hlen : ch.length ≤ 1099511627776)
    (h : ∀ v' w', Wts w' C (fun k => v.ownBlock = some k ∨ w.heap.size ≤ k) v' (ch ++ [c]) → Ext (fun k => v.ownBlock = some k) w w' → wpList Try.prog ops Q rest (a.put o.dst v') w') : wpList Try.prog ops Q (o :: rest) a w := by
  obtain ⟨pv, h1, h2, h3⟩ := hw
  refine app hgd s x 76 ho 81 _ 4 48 Try.underlying76 infoChg rfl (by decide) (by decide) M v ch.length _ hs h2 A 1 1 (chgV c u) hx rfl hb (chg_one hu) (by omega) ?_
  intro v' w' hown hx
  refine h v' w' ⟨pv ++ [u], by simp [h1], ?_, fun i q y hi hy => ?_⟩ hx
  · have he : ((ch ++ [c]).zip (pv ++ [u])).flatMap (fun q => chgV q.1 q.2) = (ch.zip pv).flatMap (fun q => chgV q.1 q.2) ++ chgV c u := by
      rw [List.zip_append h1.symm]; simp
    rw [he, List.length_append, List.length_singleton]
    exact hown
  · by_cases hlt : i < ch.length
    · rw [List.getElem?_append_left hlt] at hi
      rw [List.getElem?_append_left (by omega)] at hy
      exact (h3 i q y hi hy).ext hx hC
    · have hi2 : i = ch.length := by
        have := (List.getElem?_eq_some_iff.1 hi).1
        simp at this
        omega
      subst hi2
      rw [List.getElem?_append_right (Nat.le_refl _), Nat.sub_self] at hi
      rw [List.getElem?_append_right (by omega), h1, Nat.sub_self] at hy
      cases hi
      cases hy
      exact hu.ext hx hC
/-- A change is appended. -/
theorem DiskAt.setWait {w w1 : World} {M C : Nat → Prop} {g : Nat} {D : DS} {A : Option Addr} {n c : Nat} {v' : Value} {q : Chg} (h : DiskAt w M C g D) (c3 : w.cell? ⟨g, 3, none⟩ = some (.slice A n c)) (hq : q.ok) (hw : Wts w1 C (fun k => (Value.slice A n c).ownBlock = some k ∨ w.heap.size ≤ k) v' (D.wait ++ [q])) (hx : Ext (fun k => (Value.slice A n c).ownBlock = some k) w w1) :
    DiskAt (w1.setCell ⟨g, 3, none⟩ v') (fun k => M k ∨ v'.ownBlock = some k) C g { D with wait := D.wait ++ [q] } ∧ Ext M w (w1.setCell ⟨g, 3, none⟩ v') ∧ (∀ k, M k ∨ v'.ownBlock = some k → M k ∨ w.heap.size ≤ k) ∧ ((w1.cell? ⟨g, 3, none⟩).isSome = true) ∧ (∀ i, w1.frozen? ⟨g, i, none⟩ = false) := by
  have hC0 := h.clt
  have hM0 := h.mlt
  obtain ⟨k, ⟨bf, bs, wv, a1, a2, a3, a4, a5, a6, a7⟩, k3, k4, k5⟩ := h
  have e3 := a1.cell 3
  rw [c3] at e3
  obtain rfl : Value.slice A n c = wv := by simpa using e3
  have hwM : ∀ k, (Value.slice A n c).ownBlock = some k → M k := by obtain ⟨pv, _, b2, _⟩ := a4; exact b2.blk
  have hxn : ∀ k, C k → ¬ (Value.slice A n c).ownBlock = some k := fun k hk e => k3 k hk (hwM k e)
  obtain ⟨pv', p1, p2, p3⟩ := hw
  have hv : ∀ k, v'.ownBlock = some k → (Value.slice A n c).ownBlock = some k ∨ w.heap.size ≤ k := p2.blk
  have hvl : ∀ k, v'.ownBlock = some k → k < w1.heap.size := Own.lt p2
  have he : Ext (fun k => k = g) w1 (w1.setCell ⟨g, 3, none⟩ v') := (Ext.refl (fun k => k = g) w1).setCell (p := ⟨g, 3, none⟩) (Or.inl rfl) _
  have hC : ∀ k, C k → ¬ k = g := fun k hk e => k3 k hk (e ▸ a6.1)
  have hvne : ∀ k, v'.ownBlock = some k → k ≠ g ∧ k ≠ bf ∧ k ≠ bs := fun k hk => by
    rcases hv k hk with h | h
    · exact a7 k h
    · have := hM0 _ a6.1; have := hM0 _ a6.2.1; have := hM0 _ a6.2.2; omega
  have hM : Ext M w (w1.setCell ⟨g, 3, none⟩ v') := (hx.mono (fun k _ e => hwM k e)).trans he (fun k _ e => e ▸ a6.1)
  have hB1 : Blk w1 g _ _ := a1.ext hx (fun e => (a7 _ e).1 rfl)
  have hW : Wts w1 C (fun k => M k ∨ v'.ownBlock = some k) v' (D.wait ++ [q]) := ⟨pv', p1, ⟨p2.own, fun k e => .inr e⟩, p3⟩
  refine ⟨⟨⟨k.q0, k.q1, k.f64, k.s64, k.fl, k.sl, k.a0, k.a1, fun c hc => ?_⟩, ⟨bf, bs, v', hB1.set 3 _, (a2.ext hx (fun e => (a7 _ e).2.1 rfl) hxn).ext he (fun e => a5.1 e.symm) hC, (a3.ext hx (fun e => (a7 _ e).2.2 rfl) hxn).ext he (fun e => a5.2.1 e.symm) hC, hW.ext he (fun k hk => (hvne k hk).1) hC, a5, ⟨.inl a6.1, .inl a6.2.1, .inl a6.2.2⟩, hvne⟩, fun j hj hm => ?_, fun j hj => ?_, fun j hj => Nat.lt_of_lt_of_le (k5 j hj) hM.size⟩, hM, fun j hj => ?_, by rw [hB1.cell]; simp, hB1.frozen⟩
  · rcases List.mem_append.1 hc with hc | hc
    · exact k.chg c hc
    · rw [List.mem_singleton.1 hc]; exact hq
  · rcases hm with hm | hm
    · exact k3 j hj hm
    · rcases hv j hm with h | h
      · exact k3 j hj (hwM j h)
      · have := hC0 j hj; omega
  · rcases hj with hj | hj
    · exact Nat.lt_of_lt_of_le (k4 j hj) hM.size
    · exact Nat.lt_of_lt_of_le (hvl j hj) he.size
  · rcases hj with hj | hj
    · exact .inl hj
    · rcases hv j hj with h | h
      · exact .inl (hwM j h)
      · exact .inr h
end Go.Proofs.Ytghkgfeamijefaa
