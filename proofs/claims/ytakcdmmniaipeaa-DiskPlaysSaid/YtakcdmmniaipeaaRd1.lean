/- The document's disk (chapter 20): what it is in memory; its changes. -/
import Derived.Test.YtakcdmmniaipeaaDisk17
import Derived.Great.BuildSlice
set_option linter.unusedVariables false
set_option linter.unusedSimpArgs false
namespace Go.Proofs.Ytakcdmmniaipeaa
open Go.RowKit B
/-! ### what changes come to -/
def stepF (fs : List (List Int)) (c : Chg) : List (List Int) := if c.cut = true then (if c.at_ < (fileAt fs c.file).length then fs.set c.file ((fileAt fs c.file).take c.at_) else fs) else fs.set c.file (wrF (fileAt fs c.file) c.at_ c.p)
theorem set_same (fs : List (List Int)) (n : Nat) : fs.set n (fileAt fs (n : Int)) = fs := by
  apply List.ext_getElem?
  intro i
  rw [List.getElem?_set]
  unfold fileAt
  rw [Int.toNat_natCast]
  split
  · next e =>
    subst e
    split
    · next h => rw [List.getElem?_eq_getElem h]; rfl
    · next h => rw [List.getElem?_eq_none (by omega)]
  · rfl
theorem stepF_eq (fs : List (List Int)) (c : Chg) : stepF fs c = if c.cut = true then (if c.at_ ≤ (fileAt fs c.file).length then fs.set c.file ((fileAt fs c.file).take c.at_) else fs) else fs.set c.file (wrF (fileAt fs c.file) c.at_ c.p) := by
  unfold stepF
  split
  · by_cases h : c.at_ = (fileAt fs c.file).length
    · rw [if_neg (by omega), if_pos (by omega), h, List.take_length, set_same]
    · by_cases h2 : c.at_ < (fileAt fs c.file).length
      · rw [if_pos h2, if_pos (by omega)]
      · rw [if_neg h2, if_neg (by omega)]
  · rfl
theorem rp_nil (F : List (List Int)) : rp [] F = F := rfl
theorem rp_step (ch : List Chg) (c : Chg) (F : List (List Int)) : rp (ch ++ [c]) F = stepF (rp ch F) c := by
  rw [rp_app, stepF_eq]
theorem rp_take {ch : List Chg} {k : Nat} (h : k < ch.length) (F : List (List Int)) : rp (ch.take (k + 1)) F = stepF (rp (ch.take k) F) ch[k] := by
  rw [List.take_add_one, List.getElem?_eq_getElem h]
  exact rp_step _ _ _
theorem stepF_length (fs : List (List Int)) (c : Chg) : (stepF fs c).length = fs.length := by
  unfold stepF
  split
  · split <;> simp
  · simp
theorem stepF_small {fs : List (List Int)} {c : Chg} (h : ∀ l ∈ fs, l.length ≤ 1048576) (hc : c.ok) (h64 : fs.length = 64) : ∀ l ∈ stepF fs c, l.length ≤ 1048576 := by
  intro l hl
  have hf := h _ (fileAt_mem (fs := fs) (i := c.file) (by rw [h64]; exact hc.1))
  have hc2 := hc.2
  unfold stepF at hl
  split at hl
  · split at hl
    · rcases List.mem_or_eq_of_mem_set hl with hm | rfl
      · exact h l hm
      · rw [List.length_take]; omega
    · exact h l hl
  · rcases List.mem_or_eq_of_mem_set hl with hm | rfl
    · exact h l hm
    · rw [wrF_length]; omega
/-! ### in memory -/
/-- Blocks that may hold what the document's disk reads: those of Z, and what is newer than w. -/
def Zx (w : World) (Z : Nat → Prop) : Nat → Prop := fun k => Z k ∨ w.heap.size ≤ k
/-- A slice of files. -/
def RF (w : World) (Z : Nat → Prop) (v : Value) (fs : List (List Int)) : Prop := ∃ (b c : Nat) (vs : List Value), v = .slice (some ⟨b, 0, none⟩) fs.length c ∧ fs.length ≤ c ∧ c ≤ maxLen ∧ vs.length = fs.length ∧ Row w (some ⟨b, 0, none⟩) vs ∧ (Z b ∧ b < w.heap.size) ∧ ∀ (i : Nat) (l : List Int) (u : Value), fs[i]? = some l → vs[i]? = some u → Sl w Z u l
theorem RF.ext {w w1 : World} {S Z : Nat → Prop} {v : Value} {fs : List (List Int)} (h : RF w Z v fs) (hx : Ext S w w1) (hn : ∀ k, Z k → ¬ S k) : RF w1 Z v fs := by
  obtain ⟨b, c, vs, h1, h2, h3, h4, h5, h6, h7⟩ := h
  exact ⟨b, c, vs, h1, h2, h3, h4, h5.ext hx (fun ad e => by cases e; exact hn _ h6.1), ⟨h6.1, Nat.lt_of_lt_of_le h6.2 hx.size⟩, fun i l u a1 a2 => (h7 i l u a1 a2).ext hx hn⟩
theorem RF.ext0 {w w1 : World} {Z : Nat → Prop} {v : Value} {fs : List (List Int)} (h : RF w Z v fs) (hx : Ext None_ w w1) : RF w1 Z v fs := h.ext hx (fun _ _ a => a)
theorem RF.mono {w : World} {Z Z1 : Nat → Prop} {v : Value} {fs : List (List Int)} (h : RF w Z v fs) (hz : ∀ k, k < w.heap.size → Z k → Z1 k) : RF w Z1 v fs := by
  obtain ⟨b, c, vs, h1, h2, h3, h4, h5, h6, h7⟩ := h
  exact ⟨b, c, vs, h1, h2, h3, h4, h5, ⟨hz b h6.2 h6.1, h6.2⟩, fun i l u a1 a2 => (h7 i l u a1 a2).mono hz⟩
theorem RF.file {w : World} {Z : Nat → Prop} {v : Value} {fs : List (List Int)} (h : RF w Z v fs) {i : Nat} (hi : i < fs.length) : ∃ b c A cc, v = .slice (some ⟨b, 0, none⟩) fs.length c ∧ fs.length ≤ c ∧ c ≤ maxLen ∧ w.cell? ⟨b, i, none⟩ = some (.slice A (fileAt fs i).length cc) ∧ (fileAt fs i).length ≤ cc ∧ Sl w Z (.slice A (fileAt fs i).length cc) (fileAt fs i) := by
  obtain ⟨b, c, vs, h1, h2, h3, h4, h5, h6, h7⟩ := h
  have hs := h7 i fs[i] vs[i] (List.getElem?_eq_getElem hi) (List.getElem?_eq_getElem (by omega))
  have hc := h5.at_ (i := i) (by omega)
  rw [add_plain] at hc
  rw [fileAt_some hi]
  obtain ⟨A, cc, e, q1, q2, q3⟩ := hs
  rw [e] at hc
  exact ⟨b, c, A, cc, h1, h2, h3, hc, q2, A, cc, rfl, q1, q2, q3⟩
/-- A change as the document keeps it. -/
def rch (c : Chg) (v : Value) : List Value := [.int .i64 c.file, .int .i64 (if c.cut = true then 0 else (c.at_ : Int)), .int .i64 (if c.cut = true then (c.at_ : Int) else -1), v]
theorem rch_length (c : Chg) (v : Value) : (rch c v).length = 4 := rfl
def rchs (ch : List Chg) (pv : List Value) : List Value := (ch.zip pv).flatMap fun q => rch q.1 q.2
theorem rchs_append (l m : List Chg) (p r : List Value) (h : p.length = l.length) : rchs (l ++ m) (p ++ r) = rchs l p ++ rchs m r := by
  unfold rchs
  rw [List.zip_append h.symm, List.flatMap_append]
theorem rchs_length : ∀ (ch : List Chg) (pv : List Value), pv.length = ch.length → (rchs ch pv).length = ch.length * 4
  | [], _, _ => by simp [rchs]
  | q :: r, [], h => by simp at h
  | q :: r, p :: s, h => by
    have ih := rchs_length r s (by simpa using h)
    simp only [rchs, List.zip_cons_cons, List.flatMap_cons, List.length_append, List.length_cons, rch_length] at ih ⊢
    rw [ih]
    omega
theorem rchs_at : ∀ (ch : List Chg) (pv : List Value) (i : Nat) (c : Chg) (u : Value), ch[i]? = some c → pv[i]? = some u → ((rchs ch pv).drop (i * 4)).take 4 = rch c u
  | [], _, i, c, u, h, _ => by simp at h
  | q :: r, [], i, c, u, _, h => by simp at h
  | q :: r, p :: s, 0, c, u, h1, h2 => by
    simp at h1 h2
    subst h1 h2
    simp [rchs, rch]
  | q :: r, p :: s, i + 1, c, u, h1, h2 => by
    have ih := rchs_at r s i c u (by simpa using h1) (by simpa using h2)
    have e : rchs (q :: r) (p :: s) = rch q p ++ rchs r s := by simp [rchs]
    rw [e, show (i + 1) * 4 = (rch q p).length + i * 4 by rw [rch_length]; omega, List.drop_append, List.drop_eq_nil_of_le (by omega), Nat.add_sub_cancel_left]
    exact ih
/-- A row of changes. -/
def RW (w : World) (Z : Nat → Prop) (v : Value) (ch : List Chg) : Prop := ∃ (A : Option Addr) (c : Nat) (pv : List Value), v = .slice A ch.length c ∧ ch.length ≤ c ∧ c ≤ maxLen ∧ pv.length = ch.length ∧ Row w A (rchs ch pv) ∧ (∀ ad, A = some ad → Z ad.block ∧ ad.block < w.heap.size) ∧ ∀ (i : Nat) (c : Chg) (u : Value), ch[i]? = some c → pv[i]? = some u → Sl w Z u c.p
theorem RW.ext {w w1 : World} {S Z : Nat → Prop} {v : Value} {ch : List Chg} (h : RW w Z v ch) (hx : Ext S w w1) (hn : ∀ k, Z k → ¬ S k) : RW w1 Z v ch := by
  obtain ⟨A, c, pv, h1, h2, h3, h4, h5, h6, h7⟩ := h
  exact ⟨A, c, pv, h1, h2, h3, h4, h5.ext hx (fun ad e => hn _ (h6 ad e).1), fun ad e => ⟨(h6 ad e).1, Nat.lt_of_lt_of_le (h6 ad e).2 hx.size⟩, fun i l u a1 a2 => (h7 i l u a1 a2).ext hx hn⟩
theorem RW.ext0 {w w1 : World} {Z : Nat → Prop} {v : Value} {ch : List Chg} (h : RW w Z v ch) (hx : Ext None_ w w1) : RW w1 Z v ch := h.ext hx (fun _ _ a => a)
theorem RW.mono {w : World} {Z Z1 : Nat → Prop} {v : Value} {ch : List Chg} (h : RW w Z v ch) (hz : ∀ k, k < w.heap.size → Z k → Z1 k) : RW w Z1 v ch := by
  obtain ⟨A, c, pv, h1, h2, h3, h4, h5, h6, h7⟩ := h
  exact ⟨A, c, pv, h1, h2, h3, h4, h5, fun ad e => ⟨hz _ (h6 ad e).2 (h6 ad e).1, (h6 ad e).2⟩, fun i l u a1 a2 => (h7 i l u a1 a2).mono hz⟩
theorem RW.nil (w : World) (Z : Nat → Prop) : RW w Z (.slice none 0 0) [] := ⟨none, 0, [], rfl, Nat.le_refl _, by simp [maxLen], rfl, Row.nil _ _, (fun ad e => by cases e), (fun i c u h => by simp at h)⟩
/-- A row of the call's own that holds changes. -/
theorem RW.own {w : World} {Z ok : Nat → Prop} {v : Value} {ch : List Chg} {pv : List Value} {n : Nat} (h : Own w n 4 ok v ch.length (rchs ch pv)) (hp : pv.length = ch.length) (hs : ∀ (i : Nat) (c : Chg) (u : Value), ch[i]? = some c → pv[i]? = some u → Sl w Z u c.p) (hz : ∀ k, k < w.heap.size → ok k → Z k) : RW w Z v ch := by
  obtain ⟨A, c, rfl, h1, h2, h3⟩ := h.slice
  exact ⟨A, c, pv, rfl, h1, h2, hp, h3, fun ad e => by subst e; exact ⟨hz _ (h.lt _ rfl) (h.blk _ rfl), h.lt _ rfl⟩, hs⟩
/-- A change of the row, its four cells. -/
theorem RW.at_ {w : World} {Z : Nat → Prop} {v : Value} {ch : List Chg} (h : RW w Z v ch) {i : Nat} (hi : i < ch.length) : ∃ (ad : Addr) (c : Nat) (B : Option Addr) (cb : Nat), v = .slice (some ad) ch.length c ∧ ch.length ≤ c ∧ c ≤ maxLen ∧ (w.cell? (ad.add (i * 4)) = some (.int .i64 ch[i].file) ∧ w.cell? ⟨(ad.add (i * 4)).block, (ad.add (i * 4)).off + 1, none⟩ = some (.int .i64 (if ch[i].cut = true then 0 else (ch[i].at_ : Int))) ∧ w.cell? ⟨(ad.add (i * 4)).block, (ad.add (i * 4)).off + 2, none⟩ = some (.int .i64 (if ch[i].cut = true then (ch[i].at_ : Int) else -1)) ∧ w.cell? ⟨(ad.add (i * 4)).block, (ad.add (i * 4)).off + 3, none⟩ = some (.slice B ch[i].p.length cb)) ∧ Sl w Z (.slice B ch[i].p.length cb) ch[i].p := by
  obtain ⟨A, c, pv, h1, h2, h3, h4, h5, h6, h7⟩ := h
  have hs := h7 i ch[i] pv[i] (List.getElem?_eq_getElem hi) (List.getElem?_eq_getElem (by omega))
  have ht := rchs_at ch pv i ch[i] pv[i] (List.getElem?_eq_getElem hi) (List.getElem?_eq_getElem (by omega))
  obtain ⟨ad, rfl⟩ := h5.some (by rw [rchs_length _ _ h4]; omega)
  have hk : ∀ j, j < 4 → w.cell? (ad.add (i * 4 + j)) = (rch ch[i] pv[i])[j]? := fun j hj => by
    obtain ⟨ad', e, hc⟩ := h5 (i * 4 + j) ((rch ch[i] pv[i])[j]'(by rw [rch_length]; exact hj)) (by
      rw [← List.getElem?_eq_getElem, ← ht, List.getElem?_take, if_pos hj, List.getElem?_drop])
    cases e
    rw [hc, List.getElem?_eq_getElem]
  have hs' := hs
  obtain ⟨B, cb, hv, _⟩ := hs'
  have g3 := hk 3 (by omega)
  rw [hv] at hs g3
  exact ⟨ad, c, B, cb, h1, h2, h3, ⟨hk 0 (by omega), by rw [add_fld _ _ _ (by omega), hk 1 (by omega)]; rfl, by rw [add_fld _ _ _ (by omega), hk 2 (by omega)]; rfl, by rw [add_fld _ _ _ (by omega), g3]; rfl⟩, hs⟩
/-- The document's disk at block g. -/
structure RefAt (w : World) (Z : Nat → Prop) (g : Nat) (D : DS) : Prop where
  lay : ∃ fv wv, Blk w g #[fv, wv, .int .i64 D.quota, .int .i64 D.armed, .bool D.off] 91 ∧ RF w Z fv D.safe ∧ RW w Z wv D.wait
  far : ¬ Z g
  zlt : ∀ k, Z k → k < w.heap.size
theorem RefAt.ext {w w1 : World} {S Z : Nat → Prop} {g : Nat} {D : DS} (h : RefAt w Z g D) (hx : Ext S w w1) (hg : ¬ S g) (hn : ∀ k, Z k → ¬ S k) : RefAt w1 Z g D := by
  obtain ⟨⟨fv, wv, h1, h2, h3⟩, h4, h5⟩ := h
  exact ⟨⟨fv, wv, h1.ext hx hg, h2.ext hx hn, h3.ext hx hn⟩, h4, fun k hk => Nat.lt_of_lt_of_le (h5 k hk) hx.size⟩
theorem RefAt.ext0 {w w1 : World} {Z : Nat → Prop} {g : Nat} {D : DS} (h : RefAt w Z g D) (hx : Ext None_ w w1) : RefAt w1 Z g D := h.ext hx (fun a => a) (fun _ _ a => a)
theorem RefAt.lt {w : World} {Z : Nat → Prop} {g : Nat} {D : DS} (h : RefAt w Z g D) : g < w.heap.size := by
  obtain ⟨⟨fv, wv, h1, h2, h3⟩, h4, h5⟩ := h
  exact h1.lt
/-- What is kept when blocks that are not there are taken out. -/
def Zr (w : World) (Z : Nat → Prop) : Nat → Prop := fun k => Z k ∧ k < w.heap.size
end Go.Proofs.Ytakcdmmniaipeaa
