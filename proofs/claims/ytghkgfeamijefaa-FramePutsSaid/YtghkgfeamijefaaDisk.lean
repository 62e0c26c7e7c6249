/- Package disk: what a disk is in memory. -/
import Derived.Test.YtghkgfeamijefaaSumR
set_option linter.unusedVariables false
set_option linter.unusedSimpArgs false
namespace Go.Proofs.Ytghkgfeamijefaa
open Go.RowKit B
/-- A slice that reads as these bytes and lies in blocks of C. -/
def Sl (w : World) (C : Nat → Prop) (v : Value) (l : List Int) : Prop := ∃ A c, v = .slice A l.length c ∧ Row w A (B8 l) ∧ l.length ≤ c ∧ c ≤ 9223372036854775807 ∧ Byt l ∧ ∀ ad, A = some ad → C ad.block ∧ ad.block < w.heap.size
theorem Sl.ext {w w1 : World} {S C : Nat → Prop} {v : Value} {l : List Int} (h : Sl w C v l) (he : Ext S w w1) (hn : ∀ k, C k → ¬ S k) : Sl w1 C v l := by
  obtain ⟨A, c, h1, h2, h3, h4, h5, h6⟩ := h
  exact ⟨A, c, h1, h2.ext he (fun ad e => hn _ (h6 ad e).1), h3, h4, h5, fun ad e => ⟨(h6 ad e).1, Nat.lt_of_lt_of_le (h6 ad e).2 he.size⟩⟩
theorem Sl.mono {w : World} {C C1 : Nat → Prop} {v : Value} {l : List Int} (h : Sl w C v l) (hc : ∀ k, k < w.heap.size → C k → C1 k) : Sl w C1 v l := by
  obtain ⟨A, c, h1, h2, h3, h4, h5, h6⟩ := h
  exact ⟨A, c, h1, h2, h3, h4, h5, fun ad e => ⟨hc _ (h6 ad e).2 (h6 ad e).1, (h6 ad e).2⟩⟩
theorem Sl.nil (w : World) (C : Nat → Prop) : Sl w C (.slice none 0 0) [] := ⟨none, 0, rfl, Row.nil _ _, by simp, by omega, fun x hx => by simp at hx, fun ad e => by cases e⟩
theorem Sl.own {w : World} {C ok : Nat → Prop} {v : Value} {l : List Int} (h : OwnB w ok v l) (hb : Byt l) (hc : ∀ k, k < w.heap.size → ok k → C k) : Sl w C v l := by
  obtain ⟨A, c, h1, h2, h3, h4⟩ := Own.slice h
  refine ⟨A, c, h1, h4, h2, by simp only [maxLen] at h3; omega, hb, fun ad e => ?_⟩
  subst e h1
  exact ⟨hc _ (Own.lt h ad.block rfl) (h.blk ad.block rfl), Own.lt h ad.block rfl⟩
/-- A table of files. -/
def Fls (w : World) (C : Nat → Prop) (b : Nat) (fs : List (List Int)) : Prop := ∃ cs : Array Value, Blk w b cs 22 ∧ cs.size = fs.length ∧ ∀ (i : Nat) (l : List Int), fs[i]? = some l → ∃ v, cs[i]? = some v ∧ Sl w C v l
theorem Fls.ext {w w1 : World} {S C : Nat → Prop} {b : Nat} {fs : List (List Int)} (h : Fls w C b fs) (he : Ext S w w1) (hb : ¬ S b) (hn : ∀ k, C k → ¬ S k) : Fls w1 C b fs := by
  obtain ⟨cs, h1, h2, h3⟩ := h
  refine ⟨cs, h1.ext he hb, h2, fun i l hi => ?_⟩
  obtain ⟨v, h4, h5⟩ := h3 i l hi
  exact ⟨v, h4, h5.ext he hn⟩
theorem Fls.mono {w : World} {C C1 : Nat → Prop} {b : Nat} {fs : List (List Int)} (h : Fls w C b fs) (hc : ∀ k, k < w.heap.size → C k → C1 k) : Fls w C1 b fs := by
  obtain ⟨cs, h1, h2, h3⟩ := h
  refine ⟨cs, h1, h2, fun i l hi => ?_⟩
  obtain ⟨v, h4, h5⟩ := h3 i l hi
  exact ⟨v, h4, h5.mono hc⟩
theorem Fls.at_ {w : World} {C : Nat → Prop} {b : Nat} {fs : List (List Int)} (h : Fls w C b fs) {i : Nat} (hi : i < fs.length) : ∃ A c, w.cell? ⟨b, i, none⟩ = some (.slice A fs[i].length c) ∧ Row w A (B8 fs[i]) ∧ fs[i].length ≤ c ∧ c ≤ 9223372036854775807 ∧ Byt fs[i] ∧ ∀ ad, A = some ad → C ad.block ∧ ad.block < w.heap.size := by
  obtain ⟨cs, h1, h2, h3⟩ := h
  obtain ⟨v, h4, A, c, rfl, h5⟩ := h3 i fs[i] (List.getElem?_eq_getElem hi)
  exact ⟨A, c, by rw [h1.cell, h4], h5⟩
theorem Fls.set {w : World} {C : Nat → Prop} {b : Nat} {fs : List (List Int)} (h : Fls w C b fs) (i : Nat) (v : Value) (l : List Int) (hb : ¬ C b) (hv : Sl w C v l) : Fls (w.setCell ⟨b, i, none⟩ v) C b (fs.set i l) := by
  obtain ⟨cs, h1, h2, h3⟩ := h
  have he : Ext (fun k => k = b) w (w.setCell ⟨b, i, none⟩ v) := (Ext.refl (fun k => k = b) w).setCell (p := ⟨b, i, none⟩) (Or.inl rfl) v
  have hn : ∀ k, C k → ¬ (k = b) := fun k hk e => hb (e ▸ hk)
  refine ⟨_, h1.set i v, by simp [h2], fun j m hj => ?_⟩
  rw [List.getElem?_set] at hj
  rw [Array.getElem?_setIfInBounds]
  by_cases hij : i = j
  · subst hij
    rw [if_pos rfl] at hj ⊢
    split at hj
    · rename_i hlt
      cases hj
      exact ⟨v, by rw [if_pos (by omega)], hv.ext he hn⟩
    · cases hj
  · rw [if_neg hij] at hj ⊢
    obtain ⟨u, h4, h5⟩ := h3 j m hj
    exact ⟨u, h4, h5.ext he hn⟩
/-- A change that waits. -/
structure Chg where
  cut : Bool
  file : Nat
  at_ : Nat
  p : List Int
def Chg.ok (c : Chg) : Prop := c.file < 64 ∧ c.at_ + c.p.length ≤ 1048576
def chgV (c : Chg) (v : Value) : List Value := [.bool c.cut, .int .i64 c.file, .int .i64 c.at_, v]
/-- The changes that wait: a row of the disk's own. -/
def Wts (w : World) (C M : Nat → Prop) (v : Value) (ch : List Chg) : Prop := ∃ pv : List Value, pv.length = ch.length ∧ Own w 81 4 M v ch.length ((ch.zip pv).flatMap fun q => chgV q.1 q.2) ∧ ∀ (i : Nat) (c : Chg) (u : Value), ch[i]? = some c → pv[i]? = some u → Sl w C u c.p
theorem Wts.ext {w w1 : World} {S C M : Nat → Prop} {v : Value} {ch : List Chg} (h : Wts w C M v ch) (he : Ext S w w1) (hm : ∀ k, v.ownBlock = some k → ¬ S k) (hn : ∀ k, C k → ¬ S k) : Wts w1 C M v ch := by
  obtain ⟨pv, h1, h2, h3⟩ := h
  exact ⟨pv, h1, h2.ext he hm, fun i c u hi hu => (h3 i c u hi hu).ext he hn⟩
theorem Wts.mono {w : World} {C C1 M M1 : Nat → Prop} {v : Value} {ch : List Chg} (h : Wts w C M v ch) (hc : ∀ k, k < w.heap.size → C k → C1 k) (hm : ∀ k, k < w.heap.size → M k → M1 k) : Wts w C1 M1 v ch := by
  obtain ⟨pv, h1, h2, h3⟩ := h
  exact ⟨pv, h1, h2.mono hm, fun i c u hi hu => (h3 i c u hi hu).mono hc⟩
theorem Wts.nil (w : World) (C M : Nat → Prop) : Wts w C M (.slice none 0 0) [] := ⟨[], rfl, Own.nil _ _ _ _, fun i c u hi => by simp at hi⟩
/-- What a disk holds. -/
structure DS where
  quota : Int
  files : List (List Int)
  safe : List (List Int)
  wait : List Chg
  armed : Int
  off : Bool
def heldN (fs : List (List Int)) : Nat := (fs.map List.length).sum
structure DS.ok (D : DS) : Prop where
  q0 : 0 ≤ D.quota
  q1 : D.quota ≤ 1048576
  f64 : D.files.length = 64
  s64 : D.safe.length = 64
  fl : ∀ l ∈ D.files, l.length ≤ 1048576
  sl : ∀ l ∈ D.safe, l.length ≤ 1048576
  a0 : 0 ≤ D.armed
  a1 : D.armed ≤ 9223372036854775807
  chg : ∀ c ∈ D.wait, c.ok
/-- The disk at block g: M may be written, C holds contents. -/
structure DiskAt (w : World) (M C : Nat → Prop) (g : Nat) (D : DS) : Prop where
  ok : D.ok
  lay : ∃ bf bs wv, Blk w g #[.int .i64 D.quota, .slice (some ⟨bf, 0, none⟩) 64 64, .slice (some ⟨bs, 0, none⟩) 64 64, wv, .int .i64 D.armed, .bool D.off] 78 ∧ Fls w C bf D.files ∧ Fls w C bs D.safe ∧ Wts w C M wv D.wait ∧ (g ≠ bf ∧ g ≠ bs ∧ bf ≠ bs) ∧ (M g ∧ M bf ∧ M bs) ∧ (∀ k, wv.ownBlock = some k → k ≠ g ∧ k ≠ bf ∧ k ≠ bs)
  apart : ∀ k, C k → ¬ M k
  mlt : ∀ k, M k → k < w.heap.size
  clt : ∀ k, C k → k < w.heap.size
theorem DiskAt.ext {w w1 : World} {S M C : Nat → Prop} {g : Nat} {D : DS} (h : DiskAt w M C g D) (he : Ext S w w1) (hm : ∀ k, M k → ¬ S k) (hn : ∀ k, C k → ¬ S k) : DiskAt w1 M C g D := by
  obtain ⟨h1, ⟨bf, bs, wv, a1, a2, a3, a4, a5, a6, a7⟩, h3, h4, h5⟩ := h
  refine ⟨h1, ⟨bf, bs, wv, a1.ext he (hm _ a6.1), a2.ext he (hm _ a6.2.1) hn, a3.ext he (hm _ a6.2.2) hn, a4.ext he (fun k hk => ?_) hn, a5, a6, a7⟩, h3, fun k hk => Nat.lt_of_lt_of_le (h4 k hk) he.size, fun k hk => Nat.lt_of_lt_of_le (h5 k hk) he.size⟩
  obtain ⟨pv, _, b2, _⟩ := a4
  exact hm k (b2.blk k hk)
theorem DiskAt.ext0 {w w1 : World} {M C : Nat → Prop} {g : Nat} {D : DS} (h : DiskAt w M C g D) (he : Ext None_ w w1) : DiskAt w1 M C g D := h.ext he (fun _ _ a => a) (fun _ _ a => a)
theorem DiskAt.lt {w : World} {M C : Nat → Prop} {g : Nat} {D : DS} (h : DiskAt w M C g D) : g < w.heap.size := by
  obtain ⟨bf, bs, wv, a1, _⟩ := h.lay
  exact a1.lt
end Go.Proofs.Ytghkgfeamijefaa
