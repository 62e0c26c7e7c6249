/- A region that draws its order and whose last operation, behind all others, may write: the others only make memory. No program in sight. -/
import Derived.Test.YtghkgfeamijefaaReg3
set_option linter.unusedVariables false
set_option linter.unusedSimpArgs false
namespace Go.Proofs.Ytghkgfeamijefaa.B
open Go
section
variable {P : Program} {Q : Exit → Act → World → Prop}
theorem RJ.step {l : List Oper} {a0 : Act} {C : (Nat → Bool) → World → Prop} {G : Nat → Value → World → Prop} {L : Nat → Bool} {a : Act} {w : World} {i : Nat} {o : Oper} (hd : noDup (dsts l) = true) (hsz : (dsts l).all (· < a0.tmps.size) = true) (ho' : l[i]? = some o) (hj : RJ l a0 C G L a w) {w' : World} {v : Value}
    (hg : G i (match o.dst with | some _ => v | none => undef) w') (hc : C (upd L i) w') (hst : ∀ j u, j ≠ i → L j = true → G j u w → G j u w') : RJ l a0 C G (upd L i) (a.put o.dst v) w' := by
  have htm : ∀ t, (a.put o.dst v).tmps[t]? = if o.dst = some t ∧ t < a.tmps.size then some v else a.tmps[t]? := put_tmps a o.dst v
  refine ⟨hc, ?_, ?_, ?_, ?_⟩
  · rw [show (a.put o.dst v).defers = a.defers from by cases o.dst <;> rfl]; exact hj.dfr
  · rw [show (a.put o.dst v).tmps.size = a.tmps.size from by cases o.dst <;> simp [Act.put]]; exact hj.siz
  · intro t ht
    rw [htm, if_neg (fun e => ht i o ho' (by simp [upd]) e.1)]
    exact hj.old t (fun j oj hjj hLj => ht j oj hjj (by unfold upd; split <;> simp_all))
  · intro j oj hjj hLj
    by_cases hji : j = i
    · subst hji
      have : oj = o := by rw [ho'] at hjj; cases hjj; rfl
      subst this
      cases hdst : oj.dst with
      | none =>
        rw [hdst] at hg
        exact hg
      | some t =>
        rw [hdst] at hg
        simp only at hg ⊢
        have htl : t < a.tmps.size := by
          rw [hj.siz]
          have hmem : t ∈ dsts l := List.mem_filterMap.2 ⟨oj, List.mem_of_getElem? ho', hdst⟩
          rw [List.all_eq_true] at hsz
          simpa using hsz t hmem
        have := htm t
        rw [if_pos ⟨hdst, htl⟩, hdst] at this
        rw [Array.getD_eq_getD_getElem?, this]
        exact hg
    · have hLj' : L j = true := by unfold upd at hLj; rwa [if_neg hji] at hLj
      have hold := hj.got j oj hjj hLj'
      cases hdst : oj.dst with
      | none =>
        rw [hdst] at hold
        exact hst j _ hji hLj' hold
      | some t =>
        rw [hdst] at hold
        simp only at hold ⊢
        have := htm t
        rw [if_neg (fun e => noDup_ne hd hjj ho' hji hdst e.1)] at this
        rw [Array.getD_eq_getD_getElem?, this, ← Array.getD_eq_getD_getElem?]
        exact hst j _ hji hLj' hold
/-- Each operation but the last one has one behind it that waits for it. -/
def succB (l : List Oper) : Bool := (List.range (l.length - 1)).all fun i => l.zipIdx.any fun (o, j) => decide (i < j) && o.after.toList.any fun e => decide (e.on = i) && Region.binds .any e
def Closed (l : List Oper) (L : Nat → Bool) : Prop := ∀ (i : Nat) (o : Oper), l[i]? = some o → L i = true → ∀ e ∈ o.after.toList, Region.binds .any e = true → L e.on = true
theorem succB_spec {l : List Oper} (h : succB l = true) {i : Nat} (hi : i < l.length - 1) : ∃ (j : Nat) (o : Oper), l[j]? = some o ∧ i < j ∧ ∃ e ∈ o.after.toList, e.on = i ∧ Region.binds .any e = true := by
  unfold succB at h
  rw [List.all_eq_true] at h
  have h1 := h i (List.mem_range.2 hi)
  rw [List.any_eq_true] at h1
  obtain ⟨⟨o, j⟩, hm, h2⟩ := h1
  rw [List.mem_zipIdx_iff_getElem?] at hm
  simp only [Bool.and_eq_true, decide_eq_true_eq, List.any_eq_true] at h2
  obtain ⟨h3, e, he, h4, h5⟩ := h2
  exact ⟨j, o, by simpa using hm, h3, e, he, h4, h5⟩
theorem closed_all {l : List Oper} {L : Nat → Bool} (hs : succB l = true) (hc : Closed l L) (hL : L (l.length - 1) = true) : ∀ (k i : Nat), i + k = l.length - 1 → L i = true := by
  intro k
  induction k using Nat.strongRecOn with
  | ind k ih =>
    intro i hk
    by_cases hi : i = l.length - 1
    · rw [hi]; exact hL
    · obtain ⟨j, o, hj, hij, e, he, h4, h5⟩ := succB_spec hs (by omega : i < l.length - 1)
      have hjl := (List.getElem?_eq_some_iff.1 hj).1
      have hLj := ih (l.length - 1 - j) (by omega) j (by omega)
      have := hc j o hj hLj e he h5
      rwa [h4] at this
theorem wp_region_last {id : Nat} {l : List Oper} {a0 : Act} {w0 : World} (Gs : List SG) (hm : P.follows .mixedOrders = true)
    (hd : noDup (dsts l) = true) (hbk : backB l = true) (hsz : (dsts l).all (· < a0.tmps.size) = true) (hs : succB l = true) (hdst : l.dropLast.all (fun o => o.dst.isSome) = true) (hpos : 0 < l.length)
    (hop : allShow P l a0 w0.drew Gs Q l.dropLast 0)
    (hlast : ∀ (vs : Nat → Value) w, Ext None_ w0.drew w → (∀ i, i < l.length - 1 → (gOf Gs i).p (vs i) w) → wpList P l.toArray Q l.getLast?.toList (putAll vs l.dropLast 0 a0) w) : (Code.region id l.toArray true).wp P Q a0 w0 := by
  refine wp_region_any hm ?_
  have hb : ∀ (i : Nat) (o : Oper), l.toArray[i]? = some o → ∀ e ∈ o.after.toList, e.on < i := by
    intro i o hi e he
    unfold backB at hbk
    rw [List.all_eq_true] at hbk
    have h1 : (o, i) ∈ l.zipIdx := by
      rw [List.mem_zipIdx_iff_getElem?]
      simpa using hi
    have h2 := hbk (o, i) h1
    simp only [List.all_eq_true, decide_eq_true_eq] at h2
    exact h2 e he
  have hupd : ∀ (L : Nat → Bool) (i : Nat) (o : Oper), l[i]? = some o → (∀ e ∈ o.after.toList, Region.binds .any e = true → L e.on = true) → Closed l L → Closed l (upd L i) := by
    intro L i o ho hde hc j oj hj hLj e he hbe
    unfold upd at hLj ⊢
    split
    · rfl
    · split at hLj
      · rename_i hji
        subst hji
        rw [ho] at hj
        cases hj
        exact hde e he hbe
      · exact hc j oj hj hLj e he hbe
  refine wpAny_inv (fun L a w => Closed l L ∧ if L (l.length - 1) = true then Q .normal a w else RJm l a0 w0.drew Gs L a w) hb ?_ ?_ _ _ _ _ (by simp) ?_ ?_
  · rintro L a w i o ho hL hde ⟨hc, hj⟩
    have ho' : l[i]? = some o := by simpa using ho
    have hi := (List.getElem?_eq_some_iff.1 ho').1
    have hLl : L (l.length - 1) = false := by
      cases hh : L (l.length - 1) with
      | false => rfl
      | true =>
        have := closed_all hs hc hh (l.length - 1 - i) i (by omega)
        rw [hL] at this
        cases this
    rw [if_neg (by rw [hLl]; decide)] at hj
    have hcu := hupd L i o ho' hde hc
    by_cases hil : i = l.length - 1
    · subst hil
      have hall : ∀ i, i < l.dropLast.length → L i = true := by
        intro j hjl
        rw [List.length_dropLast] at hjl
        have h2 : upd L (l.length - 1) (l.length - 1) = true := by simp [upd]
        have := closed_all hs hcu h2 (l.length - 1 - j) j (by omega)
        unfold upd at this
        rwa [if_neg (by omega)] at this
      have hget : ∀ (j : Nat) (oj : Oper), l.dropLast[j]? = some oj → l[j]? = some oj := by
        intro j oj hjj
        rw [List.getElem?_dropLast] at hjj
        split at hjj
        · exact hjj
        · cases hjj
      have hrj : RJ l.dropLast a0 (fun _ w => Ext None_ w0.drew w) (fun i u w => (gOf Gs i).p u w) L a w := by
        refine ⟨hj.cls, hj.dfr, hj.siz, fun t ht => hj.old t (fun j oj hjj hLj => ?_), fun j oj hjj hLj => hj.got j oj (hget j oj hjj) hLj⟩
        by_cases hjl : j = l.length - 1
        · rw [hjl, hLl] at hLj; cases hLj
        · refine ht j oj ?_ hLj
          rw [List.getElem?_dropLast, if_pos (by have := (List.getElem?_eq_some_iff.1 hjj).1; omega)]
          exact hjj
      have hdd : noDup (dsts l.dropLast) = true := by
        have hsp : l = l.dropLast ++ [o] := by
          have hne : l ≠ [] := by intro e; rw [e] at hpos; simp at hpos
          have := List.dropLast_concat_getLast hne
          rw [List.getLast_eq_getElem] at this
          have ho2 : l[l.length - 1] = o := by
            have := List.getElem?_eq_getElem hi
            rw [ho'] at this
            exact (Option.some.inj this).symm
          rw [ho2] at this
          exact this.symm
        have hno : ∀ (p q : List Nat), noDup (p ++ q) = true → noDup p = true := by
          intro p q
          induction p with
          | nil => intro _; rfl
          | cons x r ih =>
            intro h
            simp only [List.cons_append, noDup, Bool.and_eq_true, Bool.not_eq_true'] at h ⊢
            refine ⟨?_, ih h.2⟩
            have := h.1
            cases hx : r.contains x with
            | false => rfl
            | true =>
              rw [List.contains_iff_mem] at hx
              have hh : (r ++ q).contains x = true := by rw [List.contains_iff_mem]; exact List.mem_append_left _ hx
              rw [hh] at this
              cases this
        rw [hsp] at hd
        unfold dsts at hd ⊢
        rw [List.filterMap_append] at hd
        exact hno _ _ hd
      obtain ⟨vs, rfl, hg⟩ := hrj.all hdd hall
      have hh := hlast vs w hj.cls (fun i hi => hg i (by rw [List.length_dropLast]; exact hi))
      have hgl : l.getLast?.toList = [o] := by rw [List.getLast?_eq_getElem?, ho']; rfl
      rw [hgl] at hh
      have hQ : ∀ a' w', Q .normal a' w' → Closed l (upd L (l.length - 1)) ∧ if upd L (l.length - 1) (l.length - 1) = true then Q .normal a' w' else RJm l a0 w0.drew Gs (upd L (l.length - 1)) a' w' := by
        intro a' w' h
        refine ⟨hcu, ?_⟩
        rw [if_pos (by simp [upd])]
        exact h
      refine wpOp_mono (K := Q .normal) hQ ?_
      unfold wpOp
      rw [ho]
      exact hh
    · have hop' := allShow_at l.dropLast 0 i o hop (by rw [List.getElem?_dropLast, if_pos (by omega)]; exact ho')
      rw [Nat.zero_add] at hop'
      have hop' := hop' L a w hde hj
      have hlu : upd L i (l.length - 1) = false := by unfold upd; rw [if_neg (by omega)]; exact hLl
      have hsome : ∃ t, o.dst = some t := by
        rw [List.all_eq_true] at hdst
        have := hdst o (List.mem_of_getElem? (by rw [List.getElem?_dropLast, if_pos (by omega)]; exact ho' : l.dropLast[i]? = some o))
        rwa [Option.isSome_iff_exists] at this
      obtain ⟨t, ht⟩ := hsome
      unfold wpOp
      rw [ho]
      simp only
      split
      · rename_i hw
        have := hop' (fun a' w' => Closed l (upd L i) ∧ if upd L i (l.length - 1) = true then Q .normal a' w' else RJm l a0 w0.drew Gs (upd L i) a' w') (fun v w' h1 h2 => ⟨hcu, by
          rw [if_neg (by rw [hlu]; decide)]
          exact RJ.step hd hsz ho' hj (by rw [ht]; exact h1) ((RJm.ext hj).trans0 h2) (fun j u _ _ h => (gOf Gs j).st u w w' h h2)⟩)
        rw [if_pos hw] at this
        exact .inl this
      · rename_i hw
        have := hop' (fun _ _ => True) (fun _ _ _ _ => trivial)
        rw [if_neg hw] at this
        refine ⟨hcu, ?_⟩
        rw [if_neg (by rw [hlu]; decide)]
        exact RJ.step hd hsz ho' hj (by rw [ht]; exact this) hj.cls (fun _ _ _ _ h => h)
  · rintro L a w hall ⟨hc, hj⟩
    rwa [if_pos (hall _ (by simp; omega))] at hj
  · unfold unl
    have := List.countP_le_length (p := fun b : Bool => !b) (l := (Array.replicate l.toArray.size false).toList)
    simpa using this
  · have hz : ∀ i, i < l.length → (Array.replicate l.toArray.size false).getD i true = false := fun i hi => by simp [Array.getD_eq_getD_getElem?, hi]
    refine ⟨fun i o hi hL => ?_, ?_⟩
    · have hlt := (List.getElem?_eq_some_iff.1 hi).1
      exact absurd ((hz i hlt).symm.trans hL) (by decide)
    · rw [if_neg (fun e => absurd ((hz _ (by omega : l.length - 1 < l.length)).symm.trans e) (by decide))]
      exact ⟨Ext.refl _ _, rfl, rfl, fun _ _ => rfl, fun i o hi hL => by
        have hlt := (List.getElem?_eq_some_iff.1 hi).1
        exact absurd ((hz i hlt).symm.trans hL) (by decide)⟩
end
end Go.Proofs.Ytghkgfeamijefaa.B
