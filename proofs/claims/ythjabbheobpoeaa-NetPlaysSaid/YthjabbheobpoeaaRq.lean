/- draylaw26.call, kind 1: the plain part: messages built in the call, handed on, and written over. -/
import Derived.Test.YthjabbheobpoeaaRp
set_option linter.unusedVariables false
set_option linter.unusedSimpArgs false
namespace Go.Proofs.Ythjabbheobpoeaa
open Go.RowKit B
theorem wpList_mslice {ops : Array Oper} {rest : List Oper} {o : Oper} {a : Act} {W : World} {Q : Exit → Act → World → Prop} (hgd : o.guard = none) (x : Operand) (ho : o.op = .buildSlice 45 1 #[(0, x)]) (q : Msg) (A : Option Addr) (c : Nat) (hx : a.eval x = .agg (msgC q A c))
    (h : wpList Try.prog ops Q rest (a.put o.dst (.slice (some ⟨W.heap.size, 0, none⟩) 1 1)) (W.alloc (.cells (msgC q A c) 28))) : wpList Try.prog ops Q (o :: rest) a W :=
  wpList_plain hgd fun K hK => by
    refine opSlice (p := fun v w' => v = .slice (some ⟨W.heap.size, 0, none⟩) 1 1 ∧ w' = W.alloc (.cells (msgC q A c) 28)) (fun v w' h1 _ => ?_) ho (ps := #[(0, .agg (msgC q A c))]) (by simp [hx]) (msg_slice q A c) ⟨rfl, rfl⟩
    obtain ⟨rfl, rfl⟩ := h1
    exact hK _ _ h
/-- Messages built in the call: the row and the entries are new. -/
def OwnMs (n0 : Nat) (w : World) (v : Value) (l : List Msg) (pv : List (Option Addr × Nat)) : Prop :=
  pv.length = l.length ∧ Own w 28 10 (fun k => n0 ≤ k) v l.length (msgsV l pv) ∧ ∀ (i : Nat) (q : Msg) (p : Option Addr × Nat), l[i]? = some q → pv[i]? = some p → Own w 72 2 (fun k => n0 ≤ k ∧ ¬ v.ownBlock = some k) (.slice p.1 q.es.length p.2) q.es.length (entV q.es)
theorem OwnMs.nil (n0 : Nat) (w : World) : OwnMs n0 w (.slice none 0 0) [] [] := ⟨rfl, Own.nil _ _ _ _, fun i q p h => by simp at h⟩
theorem OwnMs.ext {S : Nat → Prop} {n0 : Nat} {w w1 : World} {v : Value} {l : List Msg} {pv : List (Option Addr × Nat)} (h : OwnMs n0 w v l pv) (hx : Ext S w w1) (hS : ∀ k, n0 ≤ k → k < w.heap.size → ¬ S k) : OwnMs n0 w1 v l pv :=
  ⟨h.1, h.2.1.ext hx (fun k hk => hS k (h.2.1.blk k hk) (h.2.1.lt k hk)), fun i q p h1 h2 => (h.2.2 i q p h1 h2).ext hx (fun k hk => hS k ((h.2.2 i q p h1 h2).blk k hk).1 ((h.2.2 i q p h1 h2).lt k hk))⟩
theorem OwnMs.add {n0 : Nat} {w wS w2 : World} {v v' : Value} {l : List Msg} {pv : List (Option Addr × Nat)} {q : Msg} {A' : Option Addr} {c' : Nat} (h : OwnMs n0 w v l pv) (hx : Ext None_ w wS) (hn : n0 ≤ w.heap.size)
    (hE : Own wS 72 2 (fun k => w.heap.size ≤ k) (.slice A' q.es.length c') q.es.length (entV q.es)) (hu : Own w2 28 10 (fun k => v.ownBlock = some k ∨ wS.heap.size ≤ k) v' (l.length + 1) (msgsV l pv ++ (msgC q A' c').toList))
    (hx2 : Ext (fun k => v.ownBlock = some k) wS w2) : OwnMs n0 w2 v' (l ++ [q]) (pv ++ [(A', c')]) := by
  obtain ⟨h1, h2, h3⟩ := h
  have hs := hx.size
  refine ⟨by simp [h1], ?_, fun i q2 p hq hp => ?_⟩
  · rw [msgsV_append _ _ _ _ h1, List.length_append, List.length_singleton]
    have e : msgsV [q] [(A', c')] = (msgC q A' c').toList := by simp [msgsV]
    rw [e]
    exact hu.mono (fun k _ hk => by
      rcases hk with hk | hk
      · exact h2.blk k hk
      · omega)
  · by_cases hi : i < l.length
    · rw [List.getElem?_append_left hi] at hq
      rw [List.getElem?_append_left (by omega)] at hp
      have ho := h3 i q2 p hq hp
      refine ⟨((ho.ext0 hx).ext hx2 (fun k hk => (ho.blk k hk).2)).own, fun k hk => ⟨(ho.blk k hk).1, fun e => ?_⟩⟩
      rcases hu.blk k e with e | e
      · exact (ho.blk k hk).2 e
      · have := ho.lt k hk
        omega
    · rw [List.getElem?_append_right (by omega)] at hq
      rw [List.getElem?_append_right (by omega), h1] at hp
      have hi2 : i - l.length = 0 := by
        have := (List.getElem?_eq_some_iff.1 hq).1
        simpa using this
      rw [hi2] at hq hp
      cases hq
      cases hp
      refine ⟨(hE.ext hx2 (fun k hk e => ?_)).own, fun k hk => ⟨Nat.le_trans hn (hE.blk k hk), fun e => ?_⟩⟩
      · have a1 := hE.blk k hk
        have a2 := h2.lt k e
        omega
      · have a1 := hE.blk k hk
        have a3 := hE.lt k hk
        rcases hu.blk k e with e | e
        · have a2 := h2.lt k e
          omega
        · omega
/-- The row's block. -/
theorem own_row10 {w : World} {ok : Nat → Prop} {v : Value} {n : Nat} {vs : List Value} (h : Own w 28 10 ok v n vs) (hn : 0 < n) : ∃ (gs cap : Nat) (cs : Array Value), v = .slice (some ⟨gs, 0, none⟩) n cap ∧ Blk w gs cs 28 ∧ n * 10 ≤ cs.size ∧ ∀ (j : Nat) (u : Value), vs[j]? = some u → cs[j]? = some u := by
  rcases h.own.2 with ⟨hz, _⟩ | ⟨g', cap', cur', hv, _, hg, hnc, _, hcs, ht⟩
  · omega
  · refine ⟨g', cap', cur', hv, hg, by rw [hcs]; exact Nat.mul_le_mul_right _ hnc, fun j u hj => ?_⟩
    have hl : j < vs.length := (List.getElem?_eq_some_iff.1 hj).1
    rw [← ht, List.getElem?_take] at hj
    split at hj
    · rw [Array.getElem?_toList] at hj; exact hj
    · cases hj
theorem OwnMs.argL {n0 : Nat} {w : World} {gs cap : Nat} {l : List Msg} {pv : List (Option Addr × Nat)} {M : Nat → Prop} (h : OwnMs n0 w (.slice (some ⟨gs, 0, none⟩) l.length cap) l pv) (hI : ∀ q ∈ l, I64 q.f ∧ I64 q.t ∧ q.es.length ≤ 5864062014805) (hM : ∀ k, n0 ≤ k → k < w.heap.size → ¬ M k) : ArgL w M gs l pv := by
  obtain ⟨h1, h2, h3⟩ := h
  refine ⟨?_, h1, fun i q p hq hp => ?_, hM gs (h2.blk gs rfl) (h2.lt gs rfl)⟩
  · obtain ⟨A, c, he, _, _, hr⟩ := Own.slice h2
    injection he with he _ _
    subst he
    exact hr
  · obtain ⟨i1, i2, i3⟩ := hI q (List.mem_of_getElem? hq)
    have ho := h3 i q p hq hp
    obtain ⟨A, c, he, _, _, hr⟩ := Own.slice ho
    injection he with he _ _
    refine ⟨i1, i2, i3, he ▸ hr, fun ad e _ => ?_⟩
    have hb : (Value.slice p.1 q.es.length p.2).ownBlock = some ad.block := by rw [e]; rfl
    exact hM _ (ho.blk _ hb).1 (ho.lt _ hb)
theorem blk_setCells2 {b : Nat} {t : TypeId} : ∀ (vs : List Value) (w : World) (o : Nat) (cs : Array Value), Blk w b cs t → ∃ cs' : Array Value, Blk (w.setCells b o vs) b cs' t ∧ cs'.size = cs.size ∧ ∀ k, (k < o ∨ o + vs.length ≤ k) → cs'[k]? = cs[k]?
  | [], w, o, cs, h => ⟨cs, h, rfl, fun _ _ => rfl⟩
  | v :: vs, w, o, cs, h => by
    unfold World.setCells
    obtain ⟨cs', h1, h2, h3⟩ := blk_setCells2 vs _ (o + 1) _ (h.set o v)
    refine ⟨cs', h1, by rw [h2]; simp, fun k hk => ?_⟩
    rw [List.length_cons] at hk
    rw [h3 k (by omega), Array.getElem?_setIfInBounds_ne (by omega)]
/-- What is still to be written over, from number i on. -/
def OwnR (w : World) (gs : Nat) (KN : Nat → Prop) (l : List Msg) (pv : List (Option Addr × Nat)) (i : Nat) : Prop :=
  ∃ cs : Array Value, Blk w gs cs 28 ∧ l.length * 10 ≤ cs.size ∧ ∀ (j : Nat) (q : Msg) (p : Option Addr × Nat), i ≤ j → l[j]? = some q → pv[j]? = some p → cs[j * 10 + 8]? = some (.slice p.1 q.es.length p.2) ∧ (0 < q.es.length → ∃ (gb : Nat) (ce : Array Value), p.1 = some ⟨gb, 0, none⟩ ∧ gb ≠ gs ∧ KN gb ∧ Blk w gb ce 72 ∧ q.es.length * 2 ≤ ce.size)
theorem OwnMs.rest {n0 : Nat} {w : World} {gs cap : Nat} {l : List Msg} {pv : List (Option Addr × Nat)} (h : OwnMs n0 w (.slice (some ⟨gs, 0, none⟩) l.length cap) l pv) (hl : 0 < l.length) : OwnR w gs (fun k => n0 ≤ k ∧ k < w.heap.size) l pv 0 := by
  obtain ⟨h1, h2, h3⟩ := h
  obtain ⟨gs', cap', cs, he, hb, hs, hc⟩ := own_row10 h2 hl
  injection he with he _ _
  injection he with he
  injection he with he
  subst he
  refine ⟨cs, hb, hs, fun j q p _ hq hp => ⟨?_, fun hpos => ?_⟩⟩
  · have hz : (l.zip pv)[j]? = some (q, p) := by rw [List.getElem?_zip_eq_some]; exact ⟨hq, hp⟩
    have hf := flat_ten (fun x : Msg × (Option Addr × Nat) => (msgC x.1 x.2.1 x.2.2).toList) (fun x => msgC_len _ _ _) (l.zip pv) j 8 (q, p) hz (by omega)
    exact hc _ _ (hf.trans rfl)
  · have ho := h3 j q p hq hp
    obtain ⟨p1, p2⟩ := p
    obtain ⟨gb, ce, he, hbe, hsz⟩ := own_some ho hpos
    simp only at he ho
    subst he
    have hb2 : (Value.slice (some ⟨gb, 0, none⟩) q.es.length p2).ownBlock = some gb := rfl
    exact ⟨gb, ce, rfl, fun e => (ho.blk gb hb2).2 (by rw [e]; rfl), ⟨(ho.blk gb hb2).1, ho.lt gb hb2⟩, hbe, hsz⟩
theorem OwnR.ext {S KN : Nat → Prop} {w w1 : World} {gs i : Nat} {l : List Msg} {pv : List (Option Addr × Nat)} (h : OwnR w gs KN l pv i) (hx : Ext S w w1) (h1 : ¬ S gs) (h2 : ∀ k, KN k → ¬ S k) : OwnR w1 gs KN l pv i := by
  obtain ⟨cs, a1, a2, a3⟩ := h
  refine ⟨cs, a1.ext hx h1, a2, fun j q p hj hq hp => ?_⟩
  obtain ⟨b1, b2⟩ := a3 j q p hj hq hp
  refine ⟨b1, fun hpos => ?_⟩
  obtain ⟨gb, ce, c1, c2, c3, c4, c5⟩ := b2 hpos
  exact ⟨gb, ce, c1, c2, c3, c4.ext hx (h2 gb c3), c5⟩
theorem OwnR.ent {KN : Nat → Prop} {w : World} {gs i : Nat} {l : List Msg} {pv : List (Option Addr × Nat)} (h : OwnR w gs KN l pv i) (gb o : Nat) (vs : List Value) (hne : gb ≠ gs) : OwnR (w.setCells gb o vs) gs KN l pv i := by
  have hx : Ext (fun k => k = gb) w (w.setCells gb o vs) := ext_setCells (S := fun k => k = gb) rfl _ _ _
  obtain ⟨cs, a1, a2, a3⟩ := h
  refine ⟨cs, a1.ext hx (fun e => hne e.symm), a2, fun j q p hj hq hp => ?_⟩
  obtain ⟨b1, b2⟩ := a3 j q p hj hq hp
  refine ⟨b1, fun hpos => ?_⟩
  obtain ⟨g2, ce, c1, c2, c3, c4, c5⟩ := b2 hpos
  by_cases e : g2 = gb
  · subst e
    obtain ⟨ce', d1, d2, _⟩ := blk_setCells2 vs w o ce c4
    exact ⟨g2, ce', c1, c2, c3, d1, by rw [d2]; exact c5⟩
  · exact ⟨g2, ce, c1, c2, c3, c4.ext hx e, c5⟩
theorem OwnR.row {KN : Nat → Prop} {w : World} {gs i : Nat} {l : List Msg} {pv : List (Option Addr × Nat)} (h : OwnR w gs KN l pv i) (vs : List Value) (hv : vs.length = 10) : OwnR (w.setCells gs (i * 10) vs) gs KN l pv (i + 1) := by
  have hx : Ext (fun k => k = gs) w (w.setCells gs (i * 10) vs) := ext_setCells (S := fun k => k = gs) rfl _ _ _
  obtain ⟨cs, a1, a2, a3⟩ := h
  obtain ⟨cs', d1, d2, d3⟩ := blk_setCells2 vs w (i * 10) cs a1
  refine ⟨cs', d1, by rw [d2]; exact a2, fun j q p hj hq hp => ?_⟩
  obtain ⟨b1, b2⟩ := a3 j q p (by omega) hq hp
  refine ⟨by rw [d3 _ (by omega)]; exact b1, fun hpos => ?_⟩
  obtain ⟨g2, ce, c1, c2, c3, c4, c5⟩ := b2 hpos
  exact ⟨g2, ce, c1, c2, c3, c4.ext hx c2, c5⟩
end Go.Proofs.Ythjabbheobpoeaa
