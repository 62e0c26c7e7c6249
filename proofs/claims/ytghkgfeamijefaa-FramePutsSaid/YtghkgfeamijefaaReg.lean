/- A region that draws its order, by what each operation leaves: each is shown once, in whatever state the others that may have run leave, and the code behind is walked once. No program in sight. -/
import Derived.Test.YtghkgfeamijefaaBase
import Derived.Orders
import Derived.WalkKit
import Derived.ProofKit
set_option linter.unusedVariables false
set_option linter.unusedSimpArgs false
namespace Go.Proofs.Ytghkgfeamijefaa.B
open Go

section
variable {P : Program} {ops : Array Oper} {Q : Exit → Act → World → Prop}

theorem ready_spec {listed : Array Bool} {i : Nat} (h : i ∈ Region.ready .any ops listed) :
    ∃ o, ops[i]? = some o ∧ i < ops.size ∧ listed.getD i true = false ∧ ∀ e ∈ o.after.toList, Region.binds .any e = true → listed.getD e.on false = true := by
  unfold Region.ready at h
  rw [List.mem_filter, List.mem_range, Bool.and_eq_true] at h
  obtain ⟨h1, h2, h3⟩ := h
  refine ⟨ops[i], Array.getElem?_eq_getElem h1, h1, by simpa using h2, ?_⟩
  rw [Array.getElem?_eq_getElem h1, Option.map_some, Option.getD_some, Array.all_eq_true_iff_forall_mem] at h3
  intro e he hb
  have := h3 e (by simpa using he)
  rw [hb] at this
  simpa using this
theorem ready_none {listed : Array Bool} (hlen : listed.size = ops.size) (hb : ∀ (i : Nat) (o : Oper), ops[i]? = some o → ∀ e ∈ o.after.toList, e.on < i) (h : Region.ready .any ops listed = []) : ∀ i, i < ops.size → listed.getD i true = true := by
  intro i
  induction i using Nat.strongRecOn with
  | _ i ih =>
    intro hi
    cases hl : listed.getD i true with
    | true => rfl
    | false =>
      exfalso
      have : i ∈ Region.ready .any ops listed := by
        unfold Region.ready
        rw [List.mem_filter, List.mem_range, Bool.and_eq_true]
        refine ⟨hi, by rw [hl]; rfl, ?_⟩
        rw [Array.getElem?_eq_getElem hi, Option.map_some, Option.getD_some, Array.all_eq_true_iff_forall_mem]
        intro e he
        have he' := hb i ops[i] (Array.getElem?_eq_getElem hi) e (by simpa using he)
        have h1 := ih e.on he' (by omega)
        have h2 : listed.getD e.on false = true := by
          rw [Array.getD_eq_getD_getElem?] at h1 ⊢
          rw [Array.getElem?_eq_getElem (by omega)] at h1 ⊢
          exact h1
        rw [h2]
        simp
      rw [h] at this
      cases this
def unl (listed : Array Bool) : Nat := listed.toList.countP (fun b => !b)
theorem unl_set {listed : Array Bool} {i : Nat} (h : listed.getD i true = false) : unl (listed.setIfInBounds i true) + 1 = unl listed := by
  rw [Array.getD_eq_getD_getElem?] at h
  have hi : i < listed.size := by
    rcases Nat.lt_or_ge i listed.size with a | a
    · exact a
    · rw [Array.getElem?_eq_none a] at h; cases h
  rw [Array.getElem?_eq_getElem hi, Option.getD_some] at h
  unfold unl
  rw [Array.toList_setIfInBounds]
  have hs : listed.toList = listed.toList.take i ++ false :: listed.toList.drop (i + 1) := by
    have : listed.toList[i]'(by simpa using hi) = false := by simpa using h
    rw [← this, List.getElem_cons_drop, List.take_append_drop]
  have h2 : listed.toList.set i true = listed.toList.take i ++ true :: listed.toList.drop (i + 1) := by
    rw [List.set_eq_take_append_cons_drop, if_pos (by simpa using hi)]
  rw [h2]
  conv => rhs; rw [hs]
  simp only [List.countP_append, List.countP_cons]
  simp
  omega
theorem unl_zero {listed : Array Bool} (h : unl listed = 0) : ∀ i, i < listed.size → listed.getD i true = true := by
  intro i hi
  rw [Array.getD_eq_getD_getElem?, Array.getElem?_eq_getElem hi, Option.getD_some]
  unfold unl at h
  rw [List.countP_eq_zero] at h
  have := h listed[i] (by simp)
  simpa using this
def upd (L : Nat → Bool) (i : Nat) : Nat → Bool := fun j => if j = i then true else L j
/-- What holds at each state of a region, kept by each operation that may come next, holds at its end. -/
theorem wpAny_inv (J : (Nat → Bool) → Act → World → Prop) (hb : ∀ (i : Nat) (o : Oper), ops[i]? = some o → ∀ e ∈ o.after.toList, e.on < i)
    (hstep : ∀ (L : Nat → Bool) (a : Act) (w : World) (i : Nat) (o : Oper), ops[i]? = some o → L i = false → (∀ e ∈ o.after.toList, Region.binds .any e = true → L e.on = true) → J L a w → wpOp P ops Q i (J (upd L i)) a w)
    (hend : ∀ L a w, (∀ i, i < ops.size → L i = true) → J L a w → Q .normal a w) :
    ∀ (fuel : Nat) (listed : Array Bool) (a : Act) (w : World), listed.size = ops.size → unl listed ≤ fuel → J (fun i => listed.getD i true) a w → wpAny P .any ops Q fuel listed a w
  | 0, listed, a, w, hs, hu, h => by
    have hz := unl_zero (by omega : unl listed = 0)
    have hall : ∀ i, i < ops.size → listed.getD i true = true := fun i hi => hz i (by omega)
    refine ⟨?_, hend _ a w hall h⟩
    cases hr : Region.ready .any ops listed with
    | nil => rfl
    | cons i r =>
      obtain ⟨o, _, h2, h3, _⟩ := ready_spec (ops := ops) (listed := listed) (i := i) (by rw [hr]; simp)
      rw [hall i h2] at h3
      cases h3
  | fuel + 1, listed, a, w, hs, hu, h => by
    refine ⟨fun hr => hend _ a w (ready_none hs hb hr) h, fun i hi => ?_⟩
    obtain ⟨o, h1, h2, h3, h4⟩ := ready_spec hi
    refine wpOp_mono (fun a' w' hj => ?_) (hstep _ a w i o h1 h3 (fun e he hb' => ?_) h)
    · refine wpAny_inv J hb hstep hend fuel _ a' w' (by simp [hs]) (by have := unl_set h3; omega) ?_
      have e : (fun j => (listed.setIfInBounds i true).getD j true) = upd (fun i => listed.getD i true) i := by
        funext j
        unfold upd
        simp only [Array.getD_eq_getD_getElem?, Array.getElem?_setIfInBounds]
        by_cases hij : i = j
        · subst hij
          rw [if_pos rfl, if_pos rfl]
          split <;> rfl
        · rw [if_neg hij, if_neg (Ne.symm hij)]
      rw [e]
      exact hj
    · have hlt := hb i o h1 e he
      have := h4 e he hb'
      rw [Array.getD_eq_getD_getElem?] at this ⊢
      rw [Array.getElem?_eq_getElem (by omega)] at this ⊢
      exact this

/-! ### by slots -/
def putAll (vs : Nat → Value) : List Oper → Nat → Act → Act
  | [], _, a => a
  | o :: r, k, a => putAll vs r (k + 1) (a.put o.dst (vs k))
def dsts (l : List Oper) : List Nat := l.filterMap (·.dst)
def noDup : List Nat → Bool
  | [] => true
  | x :: r => !r.contains x && noDup r
def backB (l : List Oper) : Bool := (l.zipIdx.all fun (o, i) => o.after.toList.all fun e => decide (e.on < i))
/-- The state of a region: who has run left what G tells, other slots are as they were, C holds of the world. -/
structure RJ (l : List Oper) (a0 : Act) (C : (Nat → Bool) → World → Prop) (G : Nat → Value → World → Prop) (L : Nat → Bool) (a : Act) (w : World) : Prop where
  cls : C L w
  dfr : a.defers = a0.defers
  siz : a.tmps.size = a0.tmps.size
  old : ∀ t, (∀ (i : Nat) (o : Oper), l[i]? = some o → L i = true → o.dst ≠ some t) → a.tmps[t]? = a0.tmps[t]?
  got : ∀ (i : Nat) (o : Oper), l[i]? = some o → L i = true → G i (match o.dst with | some t => a.tmps.getD t undef | none => undef) w
theorem RJ.base {l : List Oper} {a0 : Act} {C : (Nat → Bool) → World → Prop} {G : Nat → Value → World → Prop} {L : Nat → Bool} {a : Act} {w : World} (h : RJ l a0 C G L a w) {t : Nat} (ht : (dsts l).contains t = false) : a.tmps[t]? = a0.tmps[t]? := by
  refine h.old t (fun i o hi _ e => ?_)
  have : t ∈ dsts l := List.mem_filterMap.2 ⟨o, List.mem_of_getElem? hi, e⟩
  rw [← List.contains_iff_mem, ht] at this
  cases this
theorem RJ.slot {l : List Oper} {a0 : Act} {C : (Nat → Bool) → World → Prop} {G : Nat → Value → World → Prop} {L : Nat → Bool} {a : Act} {w : World} (h : RJ l a0 C G L a w) {i t : Nat} {o : Oper} (hi : l[i]? = some o) (ho : o.dst = some t) (hL : L i = true) : G i (a.tmps.getD t undef) w := by
  have := h.got i o hi hL
  rw [ho] at this
  exact this
theorem noDup_ne {l : List Oper} (h : noDup (dsts l) = true) : ∀ {i j : Nat} {oi oj : Oper} {t : Nat}, l[i]? = some oi → l[j]? = some oj → i ≠ j → oi.dst = some t → oj.dst = some t → False := by
  induction l with
  | nil => intro i j oi oj t h1; simp at h1
  | cons x r ih =>
    have hr : noDup (dsts r) = true := by
      unfold dsts at h ⊢
      rw [List.filterMap_cons] at h
      cases hx : x.dst with
      | none => rw [hx] at h; exact h
      | some d => rw [hx] at h; simp only [noDup, Bool.and_eq_true] at h; exact h.2
    have hx : ∀ t, x.dst = some t → ∀ (j : Nat) (oj : Oper), r[j]? = some oj → oj.dst = some t → False := by
      intro t hx j oj hj ho
      unfold dsts at h
      rw [List.filterMap_cons, hx] at h
      simp only [noDup, Bool.and_eq_true] at h
      have hm : t ∈ r.filterMap (·.dst) := List.mem_filterMap.2 ⟨oj, List.mem_of_getElem? hj, ho⟩
      have := h.1
      rw [← List.contains_iff_mem] at hm
      rw [hm] at this
      cases this
    intro i j oi oj t h1 h2 hne e1 e2
    cases i with
    | zero =>
      cases j with
      | zero => exact hne rfl
      | succ j =>
        simp at h1 h2
        subst h1
        exact hx t e1 j oj h2 e2
    | succ i =>
      cases j with
      | zero =>
        simp at h1 h2
        subst h2
        exact hx t e2 i oi h1 e1
      | succ j =>
        simp at h1 h2
        exact ih hr h1 h2 (by omega) e1 e2
theorem putAll_defers (vs : Nat → Value) : ∀ (l : List Oper) (k : Nat) (a : Act), (putAll vs l k a).defers = a.defers
  | [], _, _ => rfl
  | o :: r, k, a => by
    rw [putAll, putAll_defers vs r]
    cases o.dst <;> rfl
theorem putAll_size (vs : Nat → Value) : ∀ (l : List Oper) (k : Nat) (a : Act), (putAll vs l k a).tmps.size = a.tmps.size
  | [], _, _ => rfl
  | o :: r, k, a => by
    rw [putAll, putAll_size vs r]
    cases o.dst <;> simp [Act.put]
theorem put_tmps (a : Act) (d : Option Nat) (v : Value) (t : Nat) : (a.put d v).tmps[t]? = if d = some t ∧ t < a.tmps.size then some v else a.tmps[t]? := by
  cases d with
  | none => simp [Act.put]
  | some d =>
    simp only [Act.put, Array.getElem?_setIfInBounds, Option.some.injEq]
    by_cases h : d = t
    · subst h
      by_cases h2 : d < a.tmps.size
      · simp [h2]
      · simp [h2]
    · simp [h]
theorem putAll_old (vs : Nat → Value) (t : Nat) : ∀ (l : List Oper) (k : Nat) (a : Act), (∀ (i : Nat) (o : Oper), l[i]? = some o → o.dst ≠ some t) → (putAll vs l k a).tmps[t]? = a.tmps[t]?
  | [], _, _, _ => rfl
  | o :: r, k, a, h => by
    rw [putAll, putAll_old vs t r (k + 1) _ (fun i o' hi => h (i + 1) o' (by simpa using hi)), put_tmps, if_neg (fun e => h 0 o rfl e.1)]
theorem putAll_at (vs : Nat → Value) (t : Nat) : ∀ (l : List Oper) (k : Nat) (a : Act), noDup (dsts l) = true → ∀ (i : Nat) (o : Oper), l[i]? = some o → o.dst = some t → t < a.tmps.size → (putAll vs l k a).tmps[t]? = some (vs (k + i))
  | [], _, _, _, i, o, hi, _, _ => by simp at hi
  | x :: r, k, a, hd, i, o, hi, ho, ht => by
    rw [putAll]
    cases i with
    | zero =>
      have hx : x = o := by simpa using hi
      subst hx
      rw [putAll_old vs t r (k + 1) _ (fun j o' hj e => noDup_ne hd (i := 0) (j := j + 1) rfl (by simpa using hj) (by omega) ho e), put_tmps, if_pos ⟨ho, ht⟩]
      rfl
    | succ i =>
      have hr : noDup (dsts r) = true := by
        unfold dsts at hd ⊢
        rw [List.filterMap_cons] at hd
        cases hx : x.dst with
        | none => rw [hx] at hd; exact hd
        | some d => rw [hx] at hd; simp only [noDup, Bool.and_eq_true] at hd; exact hd.2
      have hs : (a.put x.dst (vs k)).tmps.size = a.tmps.size := by cases x.dst <;> simp [Act.put]
      rw [putAll_at vs t r (k + 1) _ hr i o (by simpa using hi) ho (by rw [hs]; exact ht)]
      congr 2
      omega
theorem RJ.all {l : List Oper} {a0 : Act} {C : (Nat → Bool) → World → Prop} {G : Nat → Value → World → Prop} {L : Nat → Bool} {a : Act} {w : World} (hd : noDup (dsts l) = true) (hL : ∀ i, i < l.length → L i = true) (h : RJ l a0 C G L a w) :
    ∃ vs : Nat → Value, a = putAll vs l 0 a0 ∧ ∀ i, i < l.length → G i (vs i) w := by
  let vs : Nat → Value := fun i => match l[i]? with | some o => (match o.dst with | some t => a.tmps.getD t undef | none => undef) | none => undef
  refine ⟨vs, ?_, fun i hi => ?_⟩
  · have h1 : a.tmps = (putAll vs l 0 a0).tmps := by
      apply Array.ext_getElem?
      intro t
      by_cases ht : ∃ (i : Nat) (o : Oper), l[i]? = some o ∧ o.dst = some t
      · obtain ⟨i, o, hi, ho⟩ := ht
        rcases Nat.lt_or_ge t a0.tmps.size with hlt | hge
        · rw [putAll_at vs t l 0 a0 hd i o hi ho hlt]
          have hlt' : t < a.tmps.size := by rw [h.siz]; exact hlt
          simp only [vs, Nat.zero_add, hi, ho]
          rw [Array.getD_eq_getD_getElem?, Array.getElem?_eq_getElem hlt']
          rfl
        · rw [Array.getElem?_eq_none (by rw [h.siz]; exact hge), Array.getElem?_eq_none (by rw [putAll_size]; exact hge)]
      · have hn : ∀ (i : Nat) (o : Oper), l[i]? = some o → o.dst ≠ some t := fun i o hi e => ht ⟨i, o, hi, e⟩
        rw [putAll_old vs t l 0 a0 hn]
        exact h.old t (fun i o hi _ => hn i o hi)
    have h2 : a.defers = (putAll vs l 0 a0).defers := by rw [putAll_defers]; exact h.dfr
    cases a
    cases hp : putAll vs l 0 a0
    rw [hp] at h1 h2
    simp only at h1 h2
    rw [h1, h2]
  · have hi' : l[i]? = some l[i] := List.getElem?_eq_getElem hi
    have := h.got i l[i] hi' (hL i hi)
    simp only [vs, hi']
    exact this
/-- What one operation must show: in any state in which it may come up, it leaves a value of its own kind and a world that may stand. -/
def opShows (P : Program) (l : List Oper) (a0 : Act) (C : (Nat → Bool) → World → Prop) (G : Nat → Value → World → Prop) (Q : Exit → Act → World → Prop) (i : Nat) (o : Oper) : Prop :=
  ∀ L a w, L i = false → (∀ e ∈ o.after.toList, Region.binds .any e = true → L e.on = true) → RJ l a0 C G L a w →
    if Region.wanted o (yielded l.toArray a.tmps) = true then o.wp P a w (fun a' w' => ∃ v, a' = a.put o.dst v ∧ G i (match o.dst with | some _ => v | none => undef) w' ∧ C (upd L i) w' ∧ (∀ j u, j ≠ i → L j = true → G j u w → G j u w')) Q
    else G i undef w ∧ C (upd L i) w
theorem wp_region_rel {id : Nat} {l : List Oper} {a0 : Act} {w0 : World} (C : (Nat → Bool) → World → Prop) (G : Nat → Value → World → Prop) (hm : P.follows .mixedOrders = true)
    (hd : noDup (dsts l) = true) (hbk : backB l = true) (hsz : (dsts l).all (· < a0.tmps.size) = true) (hC : C (fun i => (Array.replicate l.length false).getD i true) w0.drew)
    (hop : ∀ (i : Nat) (o : Oper), l[i]? = some o → opShows P l a0 C G Q i o)
    (hend : ∀ (vs : Nat → Value) w L, (∀ i, i < l.length → L i = true) → C L w → (∀ i, i < l.length → G i (vs i) w) → Q .normal (putAll vs l 0 a0) w) : (Code.region id l.toArray true).wp P Q a0 w0 := by
  refine wp_region_any hm ?_
  have hb : ∀ (i : Nat) (o : Oper), l.toArray[i]? = some o → ∀ e ∈ o.after.toList, e.on < i := by
    intro i o hi e he
    unfold backB at hbk
    rw [List.all_eq_true] at hbk
    have h1 : (o, i) ∈ l.zipIdx := by
      rw [List.mem_zipIdx_iff_getElem?]
      simpa using hi
    have h2 := hbk (o, i) h1
    simp only [List.all_eq_true, decide_eq_true_eq] at h2
    exact h2 e he
  refine wpAny_inv (fun L a w => RJ l a0 C G L a w) hb ?_ ?_ _ _ _ _ (by simp) ?_ ?_
  · intro L a w i o ho hL hde hj
    have ho' : l[i]? = some o := by simpa using ho
    have hs := hop i o ho' L a w hL hde hj
    unfold wpOp
    rw [ho]
    simp only
    have step : ∀ a' w' v, a' = a.put o.dst v → G i (match o.dst with | some _ => v | none => undef) w' → C (upd L i) w' → (∀ j u, j ≠ i → L j = true → G j u w → G j u w') → RJ l a0 C G (upd L i) a' w' := by
      rintro a' w' v rfl hg hc hst
      have htm : ∀ t, (a.put o.dst v).tmps[t]? = if o.dst = some t ∧ t < a.tmps.size then some v else a.tmps[t]? := put_tmps a o.dst v
      refine ⟨hc, ?_, ?_, ?_, ?_⟩
      · rw [show (a.put o.dst v).defers = a.defers from by cases o.dst <;> rfl]; exact hj.dfr
      · rw [show (a.put o.dst v).tmps.size = a.tmps.size from by cases o.dst <;> simp [Act.put]]; exact hj.siz
      · intro t ht
        rw [htm, if_neg (fun e => ht i o ho' (by simp [upd]) e.1)]
        exact hj.old t (fun j oj hjj hLj => ht j oj hjj (by unfold upd; split <;> simp_all))
      · intro j oj hjj hLj
        by_cases hji : j = i
        · subst hji
          have : oj = o := by rw [ho'] at hjj; cases hjj; rfl
          subst this
          cases hdst : oj.dst with
          | none =>
            rw [hdst] at hg
            exact hg
          | some t =>
            rw [hdst] at hg
            simp only at hg ⊢
            have htl : t < a.tmps.size := by
              rw [hj.siz]
              have hmem : t ∈ dsts l := List.mem_filterMap.2 ⟨oj, List.mem_of_getElem? ho', hdst⟩
              rw [List.all_eq_true] at hsz
              simpa using hsz t hmem
            have := htm t
            rw [if_pos ⟨hdst, htl⟩, hdst] at this
            rw [Array.getD_eq_getD_getElem?, this]
            exact hg
        · have hLj' : L j = true := by unfold upd at hLj; rwa [if_neg hji] at hLj
          have hold := hj.got j oj hjj hLj'
          cases hdst : oj.dst with
          | none =>
            rw [hdst] at hold
            exact hst j _ hji hLj' hold
          | some t =>
            rw [hdst] at hold
            simp only at hold ⊢
            have := htm t
            rw [if_neg (fun e => noDup_ne hd hjj ho' hji hdst e.1)] at this
            rw [Array.getD_eq_getD_getElem?, this, ← Array.getD_eq_getD_getElem?]
            exact hst j _ hji hLj' hold
    split
    · rename_i hw
      rw [if_pos hw] at hs
      exact .inl (Oper.wp_mono (fun a' w' ⟨v, h1, h2, h3, h4⟩ => step a' w' v h1 h2 h3 h4) hs)
    · rename_i hw
      rw [if_neg hw] at hs
      exact step _ _ undef rfl (by cases o.dst <;> exact hs.1) hs.2 (fun _ _ _ _ h => h)
  · intro L a w hall hj
    have hall' : ∀ i, i < l.length → L i = true := fun i hi => hall i (by simpa using hi)
    obtain ⟨vs, rfl, hg⟩ := hj.all hd hall'
    exact hend vs w L hall' hj.cls hg
  · unfold unl
    have := List.countP_le_length (p := fun b : Bool => !b) (l := (Array.replicate l.toArray.size false).toList)
    simpa using this
  · exact ⟨hC, rfl, rfl, fun _ _ => rfl, fun i o hi hL => by
      exfalso
      have hlt := (List.getElem?_eq_some_iff.1 hi).1
      simp [Array.getD_eq_getD_getElem?, hlt] at hL⟩

/-! ### a region that only makes memory -/
structure SG where
  p : Value → World → Prop
  st : ∀ u w w', p u w → Ext None_ w w' → p u w'
def sv (v : Value) : SG := ⟨fun u _ => u = v, fun _ _ _ h _ => h⟩
def sAny : SG := ⟨fun _ _ => True, fun _ _ _ h _ => h⟩
def sRow (n c : Nat) (l : List Value) : SG := ⟨fun u w => ∃ A, u = .slice A n c ∧ Row w A l, fun _ _ _ ⟨A, h1, h2⟩ hx => ⟨A, h1, h2.ext0 hx⟩⟩
def sOwn (q : Value → World → Prop) (hq : ∀ u w w', q u w → Ext None_ w w' → q u w') : SG := ⟨q, hq⟩
abbrev gOf (Gs : List SG) (i : Nat) : SG := Gs.getD i sAny
def RJm (l : List Oper) (a0 : Act) (wB : World) (Gs : List SG) (L : Nat → Bool) (a : Act) (w : World) : Prop := RJ l a0 (fun _ w => Ext None_ wB w) (fun i u w => (gOf Gs i).p u w) L a w
theorem RJm.ext {l : List Oper} {a0 : Act} {wB : World} {Gs : List SG} {L : Nat → Bool} {a : Act} {w : World} (h : RJm l a0 wB Gs L a w) : Ext None_ wB w := h.cls
theorem RJm.at_ {l : List Oper} {a0 : Act} {wB : World} {Gs : List SG} {L : Nat → Bool} {a : Act} {w : World} (h : RJm l a0 wB Gs L a w) (i t : Nat) {o : Oper} (hi : l[i]? = some o) (ho : o.dst = some t) (ht : t < a0.tmps.size) (hL : L i = true) : ∃ u, a.tmps[t]? = some u ∧ (gOf Gs i).p u w := by
  have h1 := RJ.slot h hi ho hL
  have h2 : t < a.tmps.size := by rw [RJ.siz h]; exact ht
  rw [Array.getD_eq_getD_getElem?, Array.getElem?_eq_getElem h2] at h1
  exact ⟨_, Array.getElem?_eq_getElem h2, h1⟩
theorem RJm.val {l : List Oper} {a0 : Act} {wB : World} {Gs : List SG} {L : Nat → Bool} {a : Act} {w : World} (h : RJm l a0 wB Gs L a w) (i t : Nat) {o : Oper} {v : Value} (hi : l[i]? = some o) (ho : o.dst = some t) (ht : t < a0.tmps.size) (hg : gOf Gs i = sv v) (hL : L i = true) : a.tmps[t]? = some v := by
  obtain ⟨u, h1, h2⟩ := h.at_ i t hi ho ht hL
  rw [hg] at h2
  have h3 : u = v := h2
  rw [h1, h3]
theorem RJm.base {l : List Oper} {a0 : Act} {wB : World} {Gs : List SG} {L : Nat → Bool} {a : Act} {w : World} (h : RJm l a0 wB Gs L a w) (t : Nat) {v : Value} (ht : (dsts l).contains t = false) (hv : a0.tmps[t]? = some v) : a.tmps[t]? = some v := (RJ.base h ht).trans hv
theorem wanted_none {o : Oper} {y : Nat → Option Bool} (h : o.guard = none) : Region.wanted o y = true := by unfold Region.wanted; rw [h]
theorem wanted_some {o : Oper} {ops : Array Oper} {tm : Array Value} {j t : Nat} {b c : Bool} {oj : Oper} (h : o.guard = some (j, b)) (hj : ops[j]? = some oj) (ht : oj.dst = some t) (hv : tm[t]? = some (.bool c)) : Region.wanted o (yielded ops tm) = (c == b) := by
  unfold Region.wanted yielded
  rw [h]
  simp [hj, ht, hv]
/-- What an operation must show here. -/
def memShows (P : Program) (l : List Oper) (a0 : Act) (wB : World) (Gs : List SG) (Q : Exit → Act → World → Prop) (i : Nat) (o : Oper) : Prop :=
  ∀ (L : Nat → Bool) (a : Act) (w : World), (∀ e ∈ o.after.toList, Region.binds .any e = true → L e.on = true) → RJm l a0 wB Gs L a w →
    ∀ K : Act → World → Prop, (∀ v w', (gOf Gs i).p v w' → Ext None_ w w' → K (a.put o.dst v) w') →
    if Region.wanted o (yielded l.toArray a.tmps) = true then o.wp P a w K Q else (gOf Gs i).p undef w
def allShow (P : Program) (l : List Oper) (a0 : Act) (wB : World) (Gs : List SG) (Q : Exit → Act → World → Prop) : List Oper → Nat → Prop
  | [], _ => True
  | o :: r, k => memShows P l a0 wB Gs Q k o ∧ allShow P l a0 wB Gs Q r (k + 1)
theorem allShow_at {l : List Oper} {a0 : Act} {wB : World} {Gs : List SG} : ∀ (r : List Oper) (k i : Nat) (o : Oper), allShow P l a0 wB Gs Q r k → r[i]? = some o → memShows P l a0 wB Gs Q (k + i) o
  | [], _, _, _, _, h => by simp at h
  | x :: r, k, 0, o, h, hi => by simp at hi; subst hi; exact h.1
  | x :: r, k, i + 1, o, h, hi => by
    have := allShow_at r (k + 1) i o h.2 (by simpa using hi)
    rwa [show k + 1 + i = k + (i + 1) by omega] at this
theorem wp_region_mem {id : Nat} {l : List Oper} {a0 : Act} {w0 : World} (Gs : List SG) (hm : P.follows .mixedOrders = true)
    (hd : noDup (dsts l) = true) (hbk : backB l = true) (hdst : l.all (fun o => o.dst.isSome) = true) (hsz : (dsts l).all (· < a0.tmps.size) = true)
    (hop : allShow P l a0 w0.drew Gs Q l 0)
    (hend : ∀ (vs : Nat → Value) w, Ext None_ w0.drew w → (∀ i, i < l.length → (gOf Gs i).p (vs i) w) → Q .normal (putAll vs l 0 a0) w) : (Code.region id l.toArray true).wp P Q a0 w0 := by
  refine wp_region_rel (fun _ w => Ext None_ w0.drew w) (fun i u w => (gOf Gs i).p u w) hm hd hbk hsz (Ext.refl _ _) ?_ (fun vs w L _ hc hg => hend vs w hc hg)
  intro i o hi L a w hL hde hj
  have hs := allShow_at l 0 i o hop hi
  rw [Nat.zero_add] at hs
  have hs := hs L a w hde hj
  have hsome : ∃ t, o.dst = some t := by
    rw [List.all_eq_true] at hdst
    have := hdst o (List.mem_of_getElem? hi)
    rwa [Option.isSome_iff_exists] at this
  obtain ⟨t, ht⟩ := hsome
  by_cases hw : Region.wanted o (yielded l.toArray a.tmps) = true
  · rw [if_pos hw]
    have := hs (fun a' w' => ∃ v, a' = a.put o.dst v ∧ (gOf Gs i).p (match o.dst with | some _ => v | none => undef) w' ∧ Ext None_ w0.drew w' ∧ ∀ j u, j ≠ i → L j = true → (gOf Gs j).p u w → (gOf Gs j).p u w') (fun v w' h1 h2 => ⟨v, rfl, by rw [ht]; exact h1, (RJm.ext hj).trans0 h2, fun j u _ _ h => (gOf Gs j).st u w w' h h2⟩)
    rw [if_pos hw] at this
    exact this
  · rw [if_neg hw]
    have := hs (fun _ _ => True) (fun _ _ _ _ => trivial)
    rw [if_neg hw] at this
    exact ⟨this, hj.cls⟩

/-! ### single operations, the frame not written out -/
section
variable {o : Oper} {a : Act} {w : World} {K : Act → World → Prop} {p : Value → World → Prop}
theorem ev {t : Nat} {v : Value} (f : a.tmps[t]? = some v) : a.eval (.tmp t) = v := by simp [Act.eval, Array.getD_eq_getD_getElem?, f]
theorem opRun (hK : ∀ v w', p v w' → Ext None_ w w' → K (a.put o.dst v) w') {v : Value} {w' : World} (hr : (execOp a.eval o).run P w = .ok (.value v) w') (hp : p v w') (hx : Ext None_ w w') : o.wp P a w K Q := by
  unfold Oper.wp
  rw [hr]
  exact hK v w' hp hx
theorem opMove (hK : ∀ v w', p v w' → Ext None_ w w' → K (a.put o.dst v) w') {x : Operand} (ho : o.op = .move x) {v : Value} (hx : a.eval x = v) (hp : p v w) : o.wp P a w K Q := by
  refine opRun hK (v := v) (w' := w) ?_ hp (Ext.refl _ _)
  unfold execOp
  simp only [ho, hx]
  rfl
theorem opAssign (hK : ∀ v w', p v w' → Ext None_ w w' → K (a.put o.dst v) w') {x : Operand} (ho : o.op = .assign x) {v : Value} (hx : a.eval x = v) (hp : p v w) : o.wp P a w K Q := by
  refine opRun hK (v := v) (w' := w) ?_ hp (Ext.refl _ _)
  unfold execOp
  simp only [ho, hx]
  rfl
theorem opPick (hK : ∀ v w', p v w' → Ext None_ w w' → K (a.put o.dst v) w') {c x y : Operand} (ho : o.op = .pick c x y) {b : Bool} {v : Value} (hc : a.eval c = .bool b) (hx : (if b = true then a.eval x else a.eval y) = v) (hp : p v w) : o.wp P a w K Q := by
  refine opRun hK (v := v) (w' := w) ?_ hp (Ext.refl _ _)
  unfold execOp
  simp only [ho, hc]
  simp [asBool, hx]
theorem opBin (hK : ∀ v w', p v w' → Ext None_ w w' → K (a.put o.dst v) w') {op : BinOp} {t t2 : TypeId} {x y : Operand} (ho : o.op = .binOp op t x y t2) {vx vy v : Value} (hx : a.eval x = vx) (hy : a.eval y = vy) (hg : (eqGuard op t x y vx vy).run P w = .ok () w) (hb : (binOp op t vx vy).run P w = .ok v w) (hp : p v w) : o.wp P a w K Q := by
  refine opRun hK (v := v) (w' := w) ?_ hp (Ext.refl _ _)
  unfold execOp
  simp only [ho, hx, hy]
  simp [hg, hb]
theorem opConv (hK : ∀ v w', p v w' → Ext None_ w w' → K (a.put o.dst v) w') {s d : TypeId} {x : Operand} (ho : o.op = .convert s d x) {vx v : Value} {w' : World} (hx : a.eval x = vx) (hb : (convert s d vx).run P w = .ok v w') (hp : p v w') (hxx : Ext None_ w w') : o.wp P a w K Q := by
  refine opRun hK (v := v) (w' := w') ?_ hp hxx
  unfold execOp
  simp only [ho, hx]
  simp [hb]
/-- A slice of constants: a new block, whose cells are these. -/
theorem opSlice (hK : ∀ v w', p v w' → Ext None_ w w' → K (a.put o.dst v) w') {ty : TypeId} {n : Nat} {parts : Array (Nat × Operand)} (ho : o.op = .buildSlice ty n parts) {cs : Array Value} {e : TypeId} {ps : Array (Nat × Value)} (hps : (parts.map fun (i, x) => (i, a.eval x)) = ps)
    (hr : ∀ W : World, (Instr.buildSlice ty n ps).run P W = .ok (.slice (some ⟨W.heap.size, 0, none⟩) n n) (W.alloc (.cells cs e))) (hp : p (.slice (some ⟨w.heap.size, 0, none⟩) n n) (w.alloc (.cells cs e))) : o.wp P a w K Q := by
  refine opRun hK (v := .slice (some ⟨w.heap.size, 0, none⟩) n n) (w' := w.alloc (.cells cs e)) ?_ hp ((Ext.refl _ _).alloc _)
  unfold execOp
  simp only [ho]
  rw [hps]
  simp [hr w]
theorem opCall (hK : ∀ v w', p v w' → Ext None_ w w' → K (a.put o.dst v) w') {f : FuncId} {xs : Array Operand} {ts : Array TypeId} {fn : Func} (hf : P.funcs[f]? = some fn) (hfn : (!(fn.name == "runtime.NumGoroutine") && !fn.body.isNone) = true) (ho : o.op = .call { callee := .value (.func f), args := xs, argTypes := ts }) {args : Array Value} (hx : xs.map a.eval = args)
    (hc : Calls P f args w fun e w' => ∃ v, e = .returned v ∧ p v w' ∧ Ext None_ w w') : o.wp P a w K Q := by
  subst hx
  rw [Bool.and_eq_true] at hfn
  have h1 : ¬ fn.name = "runtime.NumGoroutine" := by have := hfn.1; simpa using this
  have h2 : ¬ fn.body = none := by have := hfn.2; intro e; rw [e] at this; cases this
  have hr : (execOp a.eval o).run P w = .ok (.enter f (xs.map a.eval)) w := by
    have e : execOp a.eval o = callFunc f (#[] ++ xs.map a.eval ++ #[]) := by
      unfold execOp
      rw [ho]
      rfl
    rw [e]
    simp [callFunc, run_program, hf, h1, h2]
  unfold Oper.wp
  rw [hr, Oper.upon_enter]
  exact hc.mono fun e w' ⟨v, he, h1, h2⟩ => by subst he; exact hK v w' h1 h2
end

section
theorem guardInt (op : BinOp) (t : TypeId) (x y : Operand) (k k' : IntKind) (a b : Int) (w : World) : (eqGuard op t x y (.int k a) (.int k' b)).run P w = .ok () w := by cases op <;> simp [eqGuard]
theorem guardStr (op : BinOp) (t : TypeId) (x y : Operand) (a b : ByteArray) (w : World) : (eqGuard op t x y (.string a) (.string b)).run P w = .ok () w := by cases op <;> simp [eqGuard]
theorem guardBool (op : BinOp) (t : TypeId) (x y : Operand) (a b : Bool) (w : World) : (eqGuard op t x y (.bool a) (.bool b)).run P w = .ok () w := by cases op <;> simp [eqGuard]
theorem binEqInt (t : TypeId) (k : IntKind) (a b : Int) (w : World) : (binOp .eql t (.int k a) (.int k b)).run P w = .ok (.bool (a == b)) w := by simp [binOp, Op.intCmp]
theorem binNeInt (t : TypeId) (k : IntKind) (a b : Int) (w : World) : (binOp .neq t (.int k a) (.int k b)).run P w = .ok (.bool (a != b)) w := by simp [binOp, Op.intCmp]
theorem binEqStr (t : TypeId) (a b : ByteArray) (w : World) : (binOp .eql t (.string a) (.string b)).run P w = .ok (.bool (a.toList == b.toList)) w := by simp [binOp, Op.stringOp]
theorem binEqBool {t : TypeId} (a b : Bool) (w : World) (h : P.underlying t = some .bool) : (binOp .eql t (.bool a) (.bool b)).run P w = .ok (.bool (a == b)) w := by
  simp only [binOp]
  simp [run_equal_bool w t a b h]
end
end
end Go.Proofs.Ytghkgfeamijefaa.B
