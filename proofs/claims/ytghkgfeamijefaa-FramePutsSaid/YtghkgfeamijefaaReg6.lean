/- A region that draws its order and holds a chain of operations (calls, stores): each stands behind the one ahead of it; the others make memory or read. Each operation is shown once. No program in sight. -/
import Derived.Test.YtghkgfeamijefaaReg4
set_option linter.unusedVariables false
set_option linter.unusedSimpArgs false
namespace Go.Proofs.Ytghkgfeamijefaa.B
open Go
structure WI where
  q : World → Prop
  st : ∀ w w', q w → Ext None_ w w' → q w'
def wiT : WI := ⟨fun _ => True, fun _ _ _ _ => trivial⟩
structure CG (S : Nat → Nat → Prop) where
  p : Nat → Value → World → Prop
  st : ∀ k u w w', p k u w → Ext None_ w w' → p k u w'
  ch : ∀ k u w w', Ext (S k) w w' → p k u w → p (k + 1) u w'
section
variable {S : Nat → Nat → Prop}
def cv (v : Value) : CG S := ⟨fun _ u _ => u = v, fun _ _ _ _ h _ => h, fun _ _ _ _ _ h => h⟩
def cAny : CG S := ⟨fun _ _ _ => True, fun _ _ _ _ h _ => h, fun _ _ _ _ _ h => h⟩
/-- What a value is, whatever the world. -/
def cE (q : Value → Prop) : CG S := ⟨fun _ u _ => q u, fun _ _ _ _ h _ => h, fun _ _ _ _ _ h => h⟩
/-- What holds from one place of the chain to another one. -/
def cR (lo hi : Nat) (q : Value → World → Prop) (hq : ∀ u w w', q u w → Ext None_ w w' → q u w') (hS : ∀ k, lo ≤ k → k < hi → ∀ u w w', q u w → Ext (S k) w w' → q u w') : CG S :=
  ⟨fun k u w => lo ≤ k ∧ (k ≤ hi → q u w), fun k u w w' h hx => ⟨h.1, fun e => hq u w w' (h.2 e) hx⟩, fun k u w w' hx h => ⟨Nat.le_succ_of_le h.1, fun e => hS k h.1 e u w w' (h.2 (by omega)) hx⟩⟩
abbrev gC (Gs : List (CG S)) (i : Nat) : CG S := Gs.getD i cAny
abbrev iC (Is : List WI) (k : Nat) : WI := Is.getD k wiT
def chIx : List Nat → Nat → Nat → Option Nat
  | [], _, _ => none
  | c :: r, i, j => bif Nat.beq c i then some j else chIx r i (j + 1)
theorem chIx_spec : ∀ (cs : List Nat) (i j m : Nat), chIx cs i j = some m → j ≤ m ∧ cs[m - j]? = some i
  | [], _, _, _, h => by simp [chIx] at h
  | c :: r, i, j, m, h => by
    unfold chIx at h
    cases hb : Nat.beq c i with
    | true =>
      rw [hb] at h
      have : j = m := by simpa using h
      subst this
      have := Nat.eq_of_beq_eq_true hb
      simp [this]
    | false =>
      rw [hb] at h
      have := chIx_spec r i (j + 1) m (by simpa using h)
      refine ⟨by omega, ?_⟩
      rw [show m - j = (m - (j + 1)) + 1 by omega]
      simpa using this.2
theorem chIx_none : ∀ (cs : List Nat) (i j : Nat), chIx cs i j = none → i ∉ cs
  | [], _, _, _ => by simp
  | c :: r, i, j, h => by
    unfold chIx at h
    cases hb : Nat.beq c i with
    | true => rw [hb] at h; simp at h
    | false =>
      rw [hb] at h
      have h1 := chIx_none r i (j + 1) (by simpa using h)
      have h2 : c ≠ i := fun e => by subst e; simp at hb
      simp only [List.mem_cons, not_or]
      exact ⟨fun e => h2 e.symm, h1⟩
/-- Between which places of the chain an operation comes up. -/
def loOf (cs : List Nat) (bd : List (Nat × Nat)) (i : Nat) : Nat := match chIx cs i 0 with | some j => j + 1 | none => (bd.getD i (0, 0)).1
def hiOf (cs : List Nat) (bd : List (Nat × Nat)) (i : Nat) : Nat := match chIx cs i 0 with | some j => j | none => (bd.getD i (0, cs.length)).2
/-- The chain: each waits, itself or through others, for the one ahead. -/
def chainB (l : List Oper) (cs : List Nat) (bd : List (Nat × Nat)) : Bool := cs.zipIdx.all fun (c, j) => decide (c < l.length) && (Nat.beq j 0 || ((l[c]?).map fun o => o.after.toList.any fun e => Region.binds .any e && decide (j ≤ loOf cs bd e.on)).getD false)
theorem chainB_at {l : List Oper} {cs : List Nat} {bd : List (Nat × Nat)} (h : chainB l cs bd = true) {j c : Nat} (hj : cs[j]? = some c) (h0 : 0 < j) : ∃ o, l[c]? = some o ∧ ∃ e ∈ o.after.toList, Region.binds .any e = true ∧ j ≤ loOf cs bd e.on := by
  unfold chainB at h
  rw [List.all_eq_true] at h
  have h1 := h (c, j) (by rw [List.mem_zipIdx_iff_getElem?]; simpa using hj)
  simp only [Bool.and_eq_true, Bool.or_eq_true] at h1
  rcases h1.2 with h2 | h2
  · have := Nat.eq_of_beq_eq_true h2; omega
  · cases ho : l[c]? with
    | none => rw [ho] at h2; simp at h2
    | some o =>
      rw [ho] at h2
      simp only [Option.map_some, Option.getD_some, List.any_eq_true, Bool.and_eq_true, decide_eq_true_eq] at h2
      obtain ⟨e, he, h4, h5⟩ := h2
      exact ⟨o, rfl, e, he, h4, h5⟩
theorem chainB_lt {l : List Oper} {cs : List Nat} {bd : List (Nat × Nat)} (h : chainB l cs bd = true) (j c : Nat) (hj : cs[j]? = some c) : c < l.length := by
  unfold chainB at h
  rw [List.all_eq_true] at h
  have h1 := h (c, j) (by rw [List.mem_zipIdx_iff_getElem?]; simpa using hj)
  simp only [Bool.and_eq_true, decide_eq_true_eq] at h1
  exact h1.1
def loB (l : List Oper) (cs : List Nat) (bd : List (Nat × Nat)) : Bool := l.zipIdx.all fun (o, i) => Nat.beq (bd.getD i (0, 0)).1 0 || o.after.toList.any fun e => Region.binds .any e && decide ((bd.getD i (0, 0)).1 ≤ loOf cs bd e.on)
def hiB (l : List Oper) (cs : List Nat) (bd : List (Nat × Nat)) : Bool := (List.range l.length).all fun i => decide (cs.length ≤ (bd.getD i (0, cs.length)).2) || l.zipIdx.any fun (o, c) => decide (i < c) && (decide (hiOf cs bd c ≤ (bd.getD i (0, cs.length)).2) && o.after.toList.any fun e => Nat.beq e.on i && Region.binds .any e)
variable {P : Program} {Q : Exit → Act → World → Prop}
def RJc (l : List Oper) (a0 : Act) (Gs : List (CG S)) (Is : List WI) (k : Nat) (L : Nat → Bool) (a : Act) (w : World) : Prop := RJ l a0 (fun _ w => (iC Is k).q w) (fun i u w => (gC Gs i).p k u w) L a w
theorem RJc.inv {l : List Oper} {a0 : Act} {Gs : List (CG S)} {Is : List WI} {k : Nat} {L : Nat → Bool} {a : Act} {w : World} (h : RJc l a0 Gs Is k L a w) : (iC Is k).q w := h.cls
theorem RJc.at_ {l : List Oper} {a0 : Act} {Gs : List (CG S)} {Is : List WI} {k : Nat} {L : Nat → Bool} {a : Act} {w : World} (h : RJc l a0 Gs Is k L a w) (i t : Nat) {o : Oper} (hi : l[i]? = some o) (ho : o.dst = some t) (ht : t < a0.tmps.size) (hL : L i = true) : ∃ u, a.tmps[t]? = some u ∧ (gC Gs i).p k u w := by
  have h1 := RJ.slot h hi ho hL
  have h2 : t < a.tmps.size := by rw [RJ.siz h]; exact ht
  rw [Array.getD_eq_getD_getElem?, Array.getElem?_eq_getElem h2] at h1
  exact ⟨_, Array.getElem?_eq_getElem h2, h1⟩
theorem RJc.val {l : List Oper} {a0 : Act} {Gs : List (CG S)} {Is : List WI} {k : Nat} {L : Nat → Bool} {a : Act} {w : World} (h : RJc l a0 Gs Is k L a w) (i t : Nat) {o : Oper} {v : Value} (hi : l[i]? = some o) (ho : o.dst = some t) (ht : t < a0.tmps.size) (hg : gC Gs i = cv v) (hL : L i = true) : a.tmps[t]? = some v := by
  obtain ⟨u, h1, h2⟩ := h.at_ i t hi ho ht hL
  rw [hg] at h2
  have h3 : u = v := h2
  rw [h1, h3]
theorem RJc.base {l : List Oper} {a0 : Act} {Gs : List (CG S)} {Is : List WI} {k : Nat} {L : Nat → Bool} {a : Act} {w : World} (h : RJc l a0 Gs Is k L a w) (t : Nat) {v : Value} (ht : (dsts l).contains t = false) (hv : a0.tmps[t]? = some v) : a.tmps[t]? = some v := (RJ.base h ht).trans hv
theorem RJ.step2 {l : List Oper} {a0 : Act} {C C' : (Nat → Bool) → World → Prop} {G G' : Nat → Value → World → Prop} {L : Nat → Bool} {a : Act} {w : World} {i : Nat} {o : Oper} (hd : noDup (dsts l) = true) (hsz : (dsts l).all (· < a0.tmps.size) = true) (ho' : l[i]? = some o) (hj : RJ l a0 C G L a w) {w' : World} {v : Value}
    (hg : G' i (match o.dst with | some _ => v | none => undef) w') (hc : C' (upd L i) w') (hst : ∀ j u, j ≠ i → L j = true → G j u w → G' j u w') : RJ l a0 C' G' (upd L i) (a.put o.dst v) w' := by
  have htm : ∀ t, (a.put o.dst v).tmps[t]? = if o.dst = some t ∧ t < a.tmps.size then some v else a.tmps[t]? := put_tmps a o.dst v
  refine ⟨hc, ?_, ?_, ?_, ?_⟩
  · rw [show (a.put o.dst v).defers = a.defers from by cases o.dst <;> rfl]; exact hj.dfr
  · rw [show (a.put o.dst v).tmps.size = a.tmps.size from by cases o.dst <;> simp [Act.put]]; exact hj.siz
  · intro t ht
    rw [htm, if_neg (fun e => ht i o ho' (by simp [upd]) e.1)]
    exact hj.old t (fun j oj hjj hLj => ht j oj hjj (by unfold upd; split <;> simp_all))
  · intro j oj hjj hLj
    by_cases hji : j = i
    · subst hji
      have : oj = o := by rw [ho'] at hjj; cases hjj; rfl
      subst this
      cases hdst : oj.dst with
      | none =>
        rw [hdst] at hg
        exact hg
      | some t =>
        rw [hdst] at hg
        simp only at hg ⊢
        have htl : t < a.tmps.size := by
          rw [hj.siz]
          have hmem : t ∈ dsts l := List.mem_filterMap.2 ⟨oj, List.mem_of_getElem? ho', hdst⟩
          rw [List.all_eq_true] at hsz
          simpa using hsz t hmem
        have := htm t
        rw [if_pos ⟨hdst, htl⟩, hdst] at this
        rw [Array.getD_eq_getD_getElem?, this]
        exact hg
    · have hLj' : L j = true := by unfold upd at hLj; rwa [if_neg hji] at hLj
      have hold := hj.got j oj hjj hLj'
      cases hdst : oj.dst with
      | none =>
        rw [hdst] at hold
        exact hst j _ hji hLj' hold
      | some t =>
        rw [hdst] at hold
        simp only at hold ⊢
        have := htm t
        rw [if_neg (fun e => noDup_ne hd hjj ho' hji hdst e.1)] at this
        rw [Array.getD_eq_getD_getElem?, this, ← Array.getD_eq_getD_getElem?]
        exact hst j _ hji hLj' hold
/-- What an operation must show here. -/
def memShowsC (P : Program) (l : List Oper) (a0 : Act) (cs : List Nat) (bd : List (Nat × Nat)) (Gs : List (CG S)) (Is : List WI) (Q : Exit → Act → World → Prop) (i : Nat) (o : Oper) : Prop :=
  ∀ (L : Nat → Bool) (a : Act) (w : World) (k : Nat), (∀ e ∈ o.after.toList, Region.binds .any e = true → L e.on = true) → RJc l a0 Gs Is k L a w → (bd.getD i (0, 0)).1 ≤ k → k ≤ (bd.getD i (0, cs.length)).2 →
    ∀ K : Act → World → Prop, (∀ v w', (gC Gs i).p k v w' → Ext None_ w w' → K (a.put o.dst v) w') →
    if Region.wanted o (yielded l.toArray a.tmps) = true then o.wp P a w K Q else (gC Gs i).p k undef w
def chainShowsC (P : Program) (l : List Oper) (a0 : Act) (Gs : List (CG S)) (Is : List WI) (Q : Exit → Act → World → Prop) (i j : Nat) (o : Oper) : Prop :=
  ∀ (L : Nat → Bool) (a : Act) (w : World), (∀ e ∈ o.after.toList, Region.binds .any e = true → L e.on = true) → RJc l a0 Gs Is j L a w →
    ∀ K : Act → World → Prop, (match o.dst with | some _ => ∀ v w', (gC Gs i).p (j + 1) v w' → (iC Is (j + 1)).q w' → Ext (S j) w w' → K (a.put o.dst v) w' | none => ∀ v w', (gC Gs i).p (j + 1) undef w' → (iC Is (j + 1)).q w' → Ext (S j) w w' → K (a.put o.dst v) w') →
    if Region.wanted o (yielded l.toArray a.tmps) = true then o.wp P a w K Q else (gC Gs i).p (j + 1) undef w ∧ (iC Is (j + 1)).q w
def showC (P : Program) (l : List Oper) (a0 : Act) (cs : List Nat) (bd : List (Nat × Nat)) (Gs : List (CG S)) (Is : List WI) (Q : Exit → Act → World → Prop) (i : Nat) (o : Oper) : Prop :=
  match chIx cs i 0 with
  | none => memShowsC P l a0 cs bd Gs Is Q i o
  | some j => chainShowsC P l a0 Gs Is Q i j o
def allShowC (P : Program) (l : List Oper) (a0 : Act) (cs : List Nat) (bd : List (Nat × Nat)) (Gs : List (CG S)) (Is : List WI) (Q : Exit → Act → World → Prop) : List Oper → Nat → Prop
  | [], _ => True
  | o :: r, k => showC P l a0 cs bd Gs Is Q k o ∧ allShowC P l a0 cs bd Gs Is Q r (k + 1)
theorem allShowC_at {l : List Oper} {a0 : Act} {cs : List Nat} {bd : List (Nat × Nat)} {Gs : List (CG S)} {Is : List WI} : ∀ (r : List Oper) (k i : Nat) (o : Oper), allShowC P l a0 cs bd Gs Is Q r k → r[i]? = some o → showC P l a0 cs bd Gs Is Q (k + i) o
  | [], _, _, _, _, h => by simp at h
  | x :: r, k, 0, o, h, hi => by simp at hi; subst hi; exact h.1
  | x :: r, k, i + 1, o, h, hi => by
    have := allShowC_at r (k + 1) i o h.2 (by simpa using hi)
    rwa [show k + 1 + i = k + (i + 1) by omega] at this
/-- Who has run of the chain. -/
def Pre (cs : List Nat) (k : Nat) (L : Nat → Bool) : Prop := ∀ (j c : Nat), cs[j]? = some c → L c = decide (j < k)
structure JC (l : List Oper) (a0 : Act) (cs : List Nat) (bd : List (Nat × Nat)) (Gs : List (CG S)) (Is : List WI) (k : Nat) (L : Nat → Bool) (a : Act) (w : World) : Prop where
  le : k ≤ cs.length
  pre : Pre cs k L
  clo : Closed l L
  lo : ∀ i, i < l.length → L i = true → loOf cs bd i ≤ k
  rj : RJc l a0 Gs Is k L a w
theorem JC.hi {l : List Oper} {a0 : Act} {cs : List Nat} {bd : List (Nat × Nat)} {Gs : List (CG S)} {Is : List WI} {k : Nat} {L : Nat → Bool} {a : Act} {w : World} (h : JC l a0 cs bd Gs Is k L a w) (hh : hiB l cs bd = true) : ∀ (m i : Nat), l.length ≤ i + m → i < l.length → L i = false → k ≤ hiOf cs bd i
  | m, i, hm, hi, hL => by
    unfold hiOf
    cases hc : chIx cs i 0 with
    | some j =>
      have := (chIx_spec cs i 0 j hc).2
      have h1 := h.pre j i (by simpa using this)
      rw [hL] at h1
      have h2 : ¬ (j < k) := by simpa using h1.symm
      show k ≤ j
      omega
    | none =>
      show k ≤ (bd.getD i (0, cs.length)).2
      have hh' := hh
      unfold hiB at hh'
      rw [List.all_eq_true] at hh'
      have h1 := hh' i (List.mem_range.2 hi)
      rw [Bool.or_eq_true] at h1
      rcases h1 with h1 | h1
      · have := of_decide_eq_true h1
        have := h.le
        omega
      · rw [List.any_eq_true] at h1
        obtain ⟨⟨o, c⟩, hmem, h2⟩ := h1
        rw [List.mem_zipIdx_iff_getElem?] at hmem
        simp only [Bool.and_eq_true, decide_eq_true_eq, List.any_eq_true] at h2
        obtain ⟨h3, h4, e, he, h5, h6⟩ := h2
        have hcl : l[c]? = some o := by simpa using hmem
        have hclt := (List.getElem?_eq_some_iff.1 hcl).1
        have hLc : L c = false := by
          cases hx : L c with
          | false => rfl
          | true =>
            have := h.clo c o hcl hx e he h6
            rw [Nat.eq_of_beq_eq_true h5, hL] at this
            cases this
        match m, hm with
        | 0, hm => omega
        | m + 1, hm =>
          have := JC.hi h hh m c (by omega) hclt hLc
          omega
theorem wp_region_chain {id : Nat} {l : List Oper} {a0 : Act} {w0 : World} (cs : List Nat) (bd : List (Nat × Nat)) (S : Nat → Nat → Prop) (Is : List WI) (Gs : List (CG S)) (hm : P.follows .mixedOrders = true)
    (hd : noDup (dsts l) = true) (hbk : backB l = true) (hsz : (dsts l).all (· < a0.tmps.size) = true) (hch : chainB l cs bd = true) (hlo : loB l cs bd = true) (hhi : hiB l cs bd = true) (hnd : noDup cs = true) (hdst : (l.zipIdx.all fun (o, i) => o.dst.isSome || (chIx cs i 0).isSome) = true)
    (hI : (iC Is 0).q w0.drew)
    (hop : allShowC P l a0 cs bd Gs Is Q l 0)
    (hend : ∀ (vs : Nat → Value) w, (iC Is cs.length).q w → (∀ i, i < l.length → (gC Gs i).p cs.length (vs i) w) → Q .normal (putAll vs l 0 a0) w) : (Code.region id l.toArray true).wp P Q a0 w0 := by
  refine wp_region_any hm ?_
  have hb : ∀ (i : Nat) (o : Oper), l.toArray[i]? = some o → ∀ e ∈ o.after.toList, e.on < i := by
    intro i o hi e he
    unfold backB at hbk
    rw [List.all_eq_true] at hbk
    have h1 : (o, i) ∈ l.zipIdx := by
      rw [List.mem_zipIdx_iff_getElem?]
      simpa using hi
    have h2 := hbk (o, i) h1
    simp only [List.all_eq_true, decide_eq_true_eq] at h2
    exact h2 e he
  have hinj : ∀ (j j' c : Nat), cs[j]? = some c → cs[j']? = some c → j = j' := by
    clear hop hend hI hdst hhi hlo hch hsz hbk hd hm hb
    induction cs with
    | nil => intro j j' c h; simp at h
    | cons x r ih =>
      simp only [noDup, Bool.and_eq_true, Bool.not_eq_true'] at hnd
      have hx : ∀ j, r[j]? ≠ some x := fun j hj => by
        have hmem := List.mem_of_getElem? hj
        rw [← List.contains_iff_mem, hnd.1] at hmem
        cases hmem
      intro j j' c h1 h2
      cases j with
      | zero =>
        cases j' with
        | zero => rfl
        | succ j' =>
          simp at h1 h2
          subst h1
          exact absurd h2 (hx j')
      | succ j =>
        cases j' with
        | zero =>
          simp at h1 h2
          subst h2
          exact absurd h1 (hx j)
        | succ j' =>
          simp at h1 h2
          rw [ih hnd.2 j j' c h1 h2]
  have hupd : ∀ (L : Nat → Bool) (i : Nat) (o : Oper), l[i]? = some o → (∀ e ∈ o.after.toList, Region.binds .any e = true → L e.on = true) → Closed l L → Closed l (upd L i) := by
    intro L i o ho hde hc j oj hj hLj e he hbe
    unfold upd at hLj ⊢
    split
    · rfl
    · split at hLj
      · rename_i hji
        subst hji
        rw [ho] at hj
        cases hj
        exact hde e he hbe
      · exact hc j oj hj hLj e he hbe
  refine wpAny_inv (fun L a w => ∃ k, JC l a0 cs bd Gs Is k L a w) hb ?_ ?_ _ _ _ _ (by simp) ?_ ?_
  · rintro L a w i o ho hL hde ⟨k, hj⟩
    have ho' : l[i]? = some o := by simpa using ho
    have hi := (List.getElem?_eq_some_iff.1 ho').1
    have hs := allShowC_at l 0 i o hop ho'
    rw [Nat.zero_add] at hs
    have hcu := hupd L i o ho' hde hj.clo
    unfold wpOp
    rw [ho]
    simp only
    unfold showC at hs
    cases hc : chIx cs i 0 with
    | none =>
      rw [hc] at hs
      have hs : memShowsC P l a0 cs bd Gs Is Q i o := hs
      have hni := chIx_none cs i 0 hc
      have hdsome : ∃ t, o.dst = some t := by
        rw [List.all_eq_true] at hdst
        have h1 := hdst (o, i) (by rw [List.mem_zipIdx_iff_getElem?]; simpa using ho')
        simp only [hc, Option.isSome_none, Bool.or_false] at h1
        rwa [Option.isSome_iff_exists] at h1
      obtain ⟨t, ht⟩ := hdsome
      have hlo1 : (bd.getD i (0, 0)).1 ≤ k := by
        unfold loB at hlo
        rw [List.all_eq_true] at hlo
        have h1 := hlo (o, i) (by rw [List.mem_zipIdx_iff_getElem?]; simpa using ho')
        simp only [Bool.or_eq_true, List.any_eq_true, Bool.and_eq_true, decide_eq_true_eq] at h1
        rcases h1 with h1 | ⟨e, he, h2, h3⟩
        · have := Nat.eq_of_beq_eq_true h1; omega
        · have := hj.lo e.on (by have := hb i o ho e he; omega) (hde e he h2)
          omega
      have hhi1 : k ≤ (bd.getD i (0, cs.length)).2 := by
        have := hj.hi hhi l.length i (by omega) hi hL
        unfold hiOf at this
        rw [hc] at this
        exact this
      have hpre : Pre cs k (upd L i) := fun j c hcj => by
        unfold upd
        rw [if_neg (fun e => hni (by subst e; exact List.mem_of_getElem? hcj))]
        exact hj.pre j c hcj
      have hlo2 : ∀ i', i' < l.length → upd L i i' = true → loOf cs bd i' ≤ k := fun i' hi' hL' => by
        unfold upd at hL'
        split at hL'
        · rename_i e
          subst e
          unfold loOf
          rw [hc]
          exact hlo1
        · exact hj.lo i' hi' hL'
      have hs := hs L a w k hde hj.rj hlo1 hhi1
      split
      · rename_i hw
        have := hs (fun a' w' => ∃ k, JC l a0 cs bd Gs Is k (upd L i) a' w') (fun v w' h1 h2 => ⟨k, hj.le, hpre, hcu, hlo2, RJ.step2 hd hsz ho' hj.rj (by rw [ht]; exact h1) ((iC Is k).st w w' hj.rj.inv h2) (fun j u _ _ h => (gC Gs j).st k u w w' h h2)⟩)
        rw [if_pos hw] at this
        exact .inl this
      · rename_i hw
        have := hs (fun _ _ => True) (fun _ _ _ _ => trivial)
        rw [if_neg hw] at this
        exact ⟨k, hj.le, hpre, hcu, hlo2, RJ.step2 hd hsz ho' hj.rj (by rw [ht]; exact this) hj.rj.inv (fun _ _ _ _ h => h)⟩
    | some j =>
      rw [hc] at hs
      have hs : chainShowsC P l a0 Gs Is Q i j o := hs
      have hcj : cs[j]? = some i := by have := (chIx_spec cs i 0 j hc).2; simpa using this
      have hkj : k = j := by
        have h1 := hj.pre j i hcj
        rw [hL] at h1
        have h2 : ¬ (j < k) := by simpa using h1.symm
        rcases Nat.eq_zero_or_pos j with hz | hp
        · omega
        · obtain ⟨o2, ho2, e, he, h3, h4⟩ := chainB_at hch hcj hp
          rw [ho'] at ho2
          cases ho2
          have h5 := hj.lo e.on (by have := hb i o ho e he; omega) (hde e he h3)
          omega
      subst hkj
      have hlt := (List.getElem?_eq_some_iff.1 hcj).1
      have hpre : Pre cs (k + 1) (upd L i) := fun j c hcj2 => by
        unfold upd
        split
        · rename_i e
          subst e
          have := hinj j k c hcj2 hcj
          subst this
          simp
        · rename_i e
          rw [hj.pre j c hcj2]
          have : j ≠ k := fun e2 => by
            subst e2
            rw [hcj] at hcj2
            cases hcj2
            exact e rfl
          by_cases h : j < k
          · rw [decide_eq_true h, decide_eq_true (by omega)]
          · rw [decide_eq_false h, decide_eq_false (by omega)]
      have hlo2 : ∀ i', i' < l.length → upd L i i' = true → loOf cs bd i' ≤ k + 1 := fun i' hi' hL' => by
        unfold upd at hL'
        split at hL'
        · rename_i e
          subst e
          unfold loOf
          rw [hc]
          exact Nat.le_refl _
        · have := hj.lo i' hi' hL'
          omega
      have hs := hs L a w hde hj.rj
      split
      · rename_i hw
        have := hs (fun a' w' => ∃ k, JC l a0 cs bd Gs Is k (upd L i) a' w') (by
          cases hdd : o.dst with
          | none => exact fun v w' h1 h2 h3 => ⟨k + 1, hlt, hpre, hcu, hlo2, hdd ▸ RJ.step2 hd hsz ho' hj.rj (v := v) (by rw [hdd]; exact h1) h2 (fun j u _ _ h => (gC Gs j).ch k u w w' h3 h)⟩
          | some t => exact fun v w' h1 h2 h3 => ⟨k + 1, hlt, hpre, hcu, hlo2, hdd ▸ RJ.step2 hd hsz ho' hj.rj (v := v) (by rw [hdd]; exact h1) h2 (fun j u _ _ h => (gC Gs j).ch k u w w' h3 h)⟩)
        rw [if_pos hw] at this
        exact .inl this
      · rename_i hw
        have := hs (fun _ _ => True) (by split <;> exact fun _ _ _ _ _ => trivial)
        rw [if_neg hw] at this
        exact ⟨k + 1, hlt, hpre, hcu, hlo2, RJ.step2 hd hsz ho' hj.rj (by cases o.dst <;> exact this.1) this.2 (fun j u _ _ h => (gC Gs j).ch k u w w (Ext.refl _ _) h)⟩
  · rintro L a w hall ⟨k, hj⟩
    have hall' : ∀ i, i < l.length → L i = true := fun i hi => hall i (by simpa using hi)
    have hk : k = cs.length := by
      rcases Nat.lt_or_ge k cs.length with h | h
      · have hck := List.getElem?_eq_getElem h
        have := hj.pre k _ hck
        rw [hall' _ (chainB_lt hch k _ hck)] at this
        simp at this
      · have := hj.le; omega
    subst hk
    obtain ⟨vs, rfl, hg⟩ := RJ.all hd hall' hj.rj
    exact hend vs w hj.rj.inv hg
  · unfold unl
    have := List.countP_le_length (p := fun b : Bool => !b) (l := (Array.replicate l.toArray.size false).toList)
    simpa using this
  · have hz : ∀ i, i < l.length → (Array.replicate l.toArray.size false).getD i true = false := fun i hi => by simp [Array.getD_eq_getD_getElem?, hi]
    refine ⟨0, Nat.zero_le _, fun j c hcj => ?_, fun i o hi hL => ?_, fun i hi hL => ?_, hI, rfl, rfl, fun _ _ => rfl, fun i o hi hL => ?_⟩
    · rw [hz c (chainB_lt hch j c hcj)]; simp
    · exact absurd ((hz i (List.getElem?_eq_some_iff.1 hi).1).symm.trans hL) (by decide)
    · exact absurd ((hz i hi).symm.trans hL) (by decide)
    · exact absurd ((hz i (List.getElem?_eq_some_iff.1 hi).1).symm.trans hL) (by decide)
end
/-! ### single operations of the chain -/
section
variable {P : Program} {Q : Exit → Act → World → Prop} {o : Oper} {a : Act} {w : World} {K : Act → World → Prop} {p : Value → World → Prop} {I : World → Prop} {X : World → World → Prop}
theorem opRunC (hK : ∀ v w', p v w' → I w' → X w w' → K (a.put o.dst v) w') {v : Value} {w' : World} (hr : (execOp a.eval o).run P w = .ok (.value v) w') (hp : p v w') (hi : I w') (hx : X w w') : o.wp P a w K Q := by
  unfold Oper.wp
  rw [hr]
  exact hK v w' hp hi hx
theorem opAssignC (hK : ∀ v w', p v w' → I w' → X w w' → K (a.put o.dst v) w') {x : Operand} (ho : o.op = .assign x) {v : Value} (hx : a.eval x = v) (hp : p v w) (hi : I w) (hxx : X w w) : o.wp P a w K Q := by
  refine opRunC hK (v := v) (w' := w) ?_ hp hi hxx
  unfold execOp
  simp only [ho, hx]
  rfl
theorem opCallC (hK : ∀ v w', p v w' → I w' → X w w' → K (a.put o.dst v) w') {f : FuncId} {xs : Array Operand} {ts : Array TypeId} {fn : Func} (hf : P.funcs[f]? = some fn) (hfn : (!(fn.name == "runtime.NumGoroutine") && !fn.body.isNone) = true) (ho : o.op = .call { callee := .value (.func f), args := xs, argTypes := ts }) {args : Array Value} (hx : xs.map a.eval = args)
    (hc : Calls P f args w fun e w' => ∃ v, e = .returned v ∧ p v w' ∧ I w' ∧ X w w') : o.wp P a w K Q := by
  subst hx
  rw [Bool.and_eq_true] at hfn
  have h1 : ¬ fn.name = "runtime.NumGoroutine" := by have := hfn.1; simpa using this
  have h2 : ¬ fn.body = none := by have := hfn.2; intro e; rw [e] at this; cases this
  have hr : (execOp a.eval o).run P w = .ok (.enter f (xs.map a.eval)) w := by
    have e : execOp a.eval o = callFunc f (#[] ++ xs.map a.eval ++ #[]) := by
      unfold execOp
      rw [ho]
      rfl
    rw [e]
    simp [callFunc, run_program, hf, h1, h2]
  unfold Oper.wp
  rw [hr, Oper.upon_enter]
  exact hc.mono fun e w' ⟨v, he, h1, h2, h3⟩ => by subst he; exact hK v w' h1 h2 h3
end
end Go.Proofs.Ytghkgfeamijefaa.B
