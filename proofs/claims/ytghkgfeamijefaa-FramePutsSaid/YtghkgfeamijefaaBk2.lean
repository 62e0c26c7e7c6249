/- The book: what it holds in memory. No program in sight but its types. -/
import Derived.Test.YtghkgfeamijefaaBk1
set_option linter.unusedVariables false
set_option linter.unusedSimpArgs false
namespace Go.Proofs.Ytghkgfeamijefaa
open Go.RowKit B
/-- A list that is kept. -/
structure Kp where
  v : Value
  l : List Int
structure BookC (w1 w : World) (gb : Nat) (K : List Kp) (vs : List Value) (V1 V2 : Value) (h : Int) (cs : List Value) : Prop where
  blk : Blk w gb #[V1, V2, .int .i64 h, .bool false] 61
  hh : I64 h
  t1 : Tab w V1 vs
  t2 : Tab w V2 cs
  len : cs.length = K.length
  cp : ∀ (i : Nat) (x : Kp) (c : Value), K[i]? = some x → cs[i]? = some c → ∃ A cp, c = .slice A x.l.length cp ∧ Row w A (B8 x.l) ∧ ∀ ad, A = some ad → 0 < x.l.length → w1.heap.size ≤ ad.block ∧ ¬ V1.ownBlock = some ad.block ∧ ¬ V2.ownBlock = some ad.block
  b1 : ∀ k, V1.ownBlock = some k → w1.heap.size ≤ k ∧ ¬ V2.ownBlock = some k
  b2 : ∀ k, V2.ownBlock = some k → w1.heap.size ≤ k
theorem rowL {S : Nat → Prop} {w W : World} {A : Option Addr} {p : List Int} (hp : Row w A (B8 p)) (hx : Ext S w W) (hpM : ∀ ad, A = some ad → 0 < p.length → ¬ S ad.block) : Row W A (B8 p) := by
  by_cases h : 0 < p.length
  · exact hp.ext hx (fun ad e => hpM ad e h)
  · rw [List.eq_nil_of_length_eq_zero (by omega : p.length = 0)]
    exact Row.nil _ _
section
variable {w1 w w' : World} {gb : Nat} {K : List Kp} {vs cs : List Value} {V1 V2 : Value} {h : Int}
theorem BookC.ext0 (b : BookC w1 w gb K vs V1 V2 h cs) (hx : Ext None_ w w') : BookC w1 w' gb K vs V1 V2 h cs :=
  ⟨b.blk.ext hx (fun a => a), b.hh, b.t1.ext0 hx, b.t2.ext0 hx, b.len, fun i x c h1 h2 => by
    obtain ⟨A, cp, e, hr, hb⟩ := b.cp i x c h1 h2
    exact ⟨A, cp, e, hr.ext0 hx, hb⟩, b.b1, b.b2⟩
/-- Another number of places. -/
theorem BookC.held (b : BookC w1 w gb K vs V1 V2 h cs) (hg : gb < w1.heap.size) {h' : Int} (hh : I64 h') : BookC w1 (w.setCell ⟨gb, 2, none⟩ (.int .i64 h')) gb K vs V1 V2 h' cs := by
  have hx : Ext (fun k => k = gb) w (w.setCell ⟨gb, 2, none⟩ (.int .i64 h')) := (Ext.refl (fun k => k = gb) w).setCell (p := ⟨gb, 2, none⟩) (.inl rfl) _
  refine ⟨b.blk.set 2 _, hh, b.t1.ext hx (fun k e hk => ?_), b.t2.ext hx (fun k e hk => ?_), b.len, fun i x c h1 h2 => ?_, b.b1, b.b2⟩
  · have := (b.b1 k e).1; have hk : k = gb := hk; omega
  · have := b.b2 k e; have hk : k = gb := hk; omega
  · obtain ⟨A, cp, e, hr, hb⟩ := b.cp i x c h1 h2
    exact ⟨A, cp, e, rowL hr hx (fun ad e hp hk => by have := (hb ad e hp).1; have hk : ad.block = gb := hk; omega), hb⟩
/-- It is not bad. -/
theorem BookC.good (b : BookC w1 w gb K vs V1 V2 h cs) (hg : gb < w1.heap.size) : BookC w1 (w.setCell ⟨gb, 3, none⟩ (.bool false)) gb K vs V1 V2 h cs := by
  have hx : Ext (fun k => k = gb) w (w.setCell ⟨gb, 3, none⟩ (.bool false)) := (Ext.refl (fun k => k = gb) w).setCell (p := ⟨gb, 3, none⟩) (.inl rfl) _
  refine ⟨b.blk.set 3 _, b.hh, b.t1.ext hx (fun k e hk => ?_), b.t2.ext hx (fun k e hk => ?_), b.len, fun i x c h1 h2 => ?_, b.b1, b.b2⟩
  · have := (b.b1 k e).1; have hk : k = gb := hk; omega
  · have := b.b2 k e; have hk : k = gb := hk; omega
  · obtain ⟨A, cp, e, hr, hb⟩ := b.cp i x c h1 h2
    exact ⟨A, cp, e, rowL hr hx (fun ad e hp hk => by have := (hb ad e hp).1; have hk : ad.block = gb := hk; omega), hb⟩
/-- The table of lists is another one. -/
theorem BookC.set1 (b : BookC w1 w gb K vs V1 V2 h cs) (hg : gb < w1.heap.size) (hs : w1.heap.size ≤ w.heap.size) {V1' : Value} {vs' : List Value} (hT : Tab w' V1' vs') (hx : Ext (fun k => V1.ownBlock = some k) w w') (hn : ∀ k, V1'.ownBlock = some k → V1.ownBlock = some k ∨ w.heap.size ≤ k) :
    BookC w1 (w'.setCell ⟨gb, 0, none⟩ V1') gb K vs' V1' V2 h cs ∧ Blk w' gb #[V1, V2, .int .i64 h, .bool false] 61 := by
  have hb1 : ∀ k, V1.ownBlock = some k → k ≠ gb := fun k e hk => by have := (b.b1 k e).1; omega
  have hB : Blk w' gb #[V1, V2, .int .i64 h, .bool false] 61 := b.blk.ext hx (fun e => hb1 _ e rfl)
  have hx2 : Ext (fun k => k = gb) w' (w'.setCell ⟨gb, 0, none⟩ V1') := (Ext.refl (fun k => k = gb) w').setCell (p := ⟨gb, 0, none⟩) (.inl rfl) _
  have hlt : ∀ k, V1'.ownBlock = some k → w1.heap.size ≤ k := fun k e => by
    rcases hn k e with e | e
    · exact (b.b1 k e).1
    · omega
  refine ⟨⟨hB.set 0 _, b.hh, hT.ext hx2 (fun k e hk => by have := hlt k e; have hk : k = gb := hk; omega), (b.t2.ext hx (fun k e hk => (b.b1 k hk).2 e)).ext hx2 (fun k e hk => by have := b.b2 k e; have hk : k = gb := hk; omega), b.len, fun i x c h1 h2 => ?_, fun k e => ⟨hlt k e, fun e2 => ?_⟩, b.b2⟩, hB⟩
  · obtain ⟨A, cp, e, hr, hb⟩ := b.cp i x c h1 h2
    refine ⟨A, cp, e, rowL (rowL hr hx (fun ad e hp hk => (hb ad e hp).2.1 hk)) hx2 (fun ad e hp hk => by have := (hb ad e hp).1; have hk : ad.block = gb := hk; omega), fun ad e hp => ⟨(hb ad e hp).1, fun e2 => ?_, (hb ad e hp).2.2⟩⟩
    rcases hn _ e2 with e3 | e3
    · exact (hb ad e hp).2.1 e3
    · have := hr.lt (by rw [B8_length]; exact hp) ad e; omega
  · rcases hn k e with e3 | e3
    · exact (b.b1 k e3).2 e2
    · have := b.t2.lt k e2; omega
/-- The table of copies has one more. -/
theorem BookC.set2 (b : BookC w1 w gb K vs V1 V2 h cs) (hg : gb < w1.heap.size) (hs : w1.heap.size ≤ w.heap.size) {V2' : Value} {x : Kp} {A : Option Addr} {cp : Nat} (hT : Tab w' V2' (cs ++ [.slice A x.l.length cp])) (hx : Ext (fun k => V2.ownBlock = some k) w w') (hn : ∀ k, V2'.ownBlock = some k → V2.ownBlock = some k ∨ w.heap.size ≤ k)
    (hr : Row w A (B8 x.l)) (hA : ∀ ad, A = some ad → 0 < x.l.length → w1.heap.size ≤ ad.block ∧ ¬ V1.ownBlock = some ad.block ∧ ¬ V2.ownBlock = some ad.block) :
    BookC w1 (w'.setCell ⟨gb, 1, none⟩ V2') gb (K ++ [x]) vs V1 V2' h (cs ++ [.slice A x.l.length cp]) ∧ Blk w' gb #[V1, V2, .int .i64 h, .bool false] 61 := by
  have hb2 : ∀ k, V2.ownBlock = some k → k ≠ gb := fun k e hk => by have := b.b2 k e; omega
  have hB : Blk w' gb #[V1, V2, .int .i64 h, .bool false] 61 := b.blk.ext hx (fun e => hb2 _ e rfl)
  have hx2 : Ext (fun k => k = gb) w' (w'.setCell ⟨gb, 1, none⟩ V2') := (Ext.refl (fun k => k = gb) w').setCell (p := ⟨gb, 1, none⟩) (.inl rfl) _
  have hlt : ∀ k, V2'.ownBlock = some k → w1.heap.size ≤ k := fun k e => by
    rcases hn k e with e | e
    · exact b.b2 k e
    · omega
  have key : ∀ (y : Kp) (A : Option Addr), Row w A (B8 y.l) → (∀ ad, A = some ad → 0 < y.l.length → w1.heap.size ≤ ad.block ∧ ¬ V1.ownBlock = some ad.block ∧ ¬ V2.ownBlock = some ad.block) → Row (w'.setCell ⟨gb, 1, none⟩ V2') A (B8 y.l) ∧ ∀ ad, A = some ad → 0 < y.l.length → w1.heap.size ≤ ad.block ∧ ¬ V1.ownBlock = some ad.block ∧ ¬ V2'.ownBlock = some ad.block := by
    intro y A hr hb
    refine ⟨rowL (rowL hr hx (fun ad e hp hk => (hb ad e hp).2.2 hk)) hx2 (fun ad e hp hk => by have := (hb ad e hp).1; have hk : ad.block = gb := hk; omega), fun ad e hp => ⟨(hb ad e hp).1, (hb ad e hp).2.1, fun e2 => ?_⟩⟩
    rcases hn _ e2 with e3 | e3
    · exact (hb ad e hp).2.2 e3
    · have := hr.lt (by rw [B8_length]; exact hp) ad e; omega
  refine ⟨⟨hB.set 1 _, b.hh, (b.t1.ext hx (fun k e hk => (b.b1 k e).2 hk)).ext hx2 (fun k e hk => by have := (b.b1 k e).1; have hk : k = gb := hk; omega), hT.ext hx2 (fun k e hk => by have := hlt k e; have hk : k = gb := hk; omega), by simp [b.len], fun i y c h1 h2 => ?_, fun k e => ⟨(b.b1 k e).1, fun e2 => ?_⟩, hlt⟩, hB⟩
  · by_cases hi : i < K.length
    · rw [List.getElem?_append_left hi] at h1
      rw [List.getElem?_append_left (by rw [b.len]; exact hi)] at h2
      obtain ⟨A, cp, e, hr, hb⟩ := b.cp i y c h1 h2
      obtain ⟨k1, k2⟩ := key y A hr hb
      exact ⟨A, cp, e, k1, k2⟩
    · rw [List.getElem?_append_right (by omega)] at h1
      rw [List.getElem?_append_right (by rw [b.len]; omega), b.len] at h2
      have hi2 : i - K.length = 0 := by
        have := (List.getElem?_eq_some_iff.1 h1).1
        simpa using this
      rw [hi2] at h1 h2
      cases h1
      cases h2
      obtain ⟨k1, k2⟩ := key x A hr hA
      exact ⟨A, cp, rfl, k1, k2⟩
  · rcases hn k e2 with e3 | e3
    · exact (b.b1 k e).2 e3
    · have := b.t1.lt k e; omega
/-- The first ones are let go. -/
theorem BookC.pop {x : Kp} {u c : Value} (b : BookC w1 w gb (x :: K) (u :: vs) V1 V2 h (c :: cs)) (hg : gb < w1.heap.size) {V1' V2' : Value} (hT1 : Tab w V1' vs) (hT2 : Tab w V2' cs) (h1 : ∀ k, V1'.ownBlock = some k → V1.ownBlock = some k) (h2 : ∀ k, V2'.ownBlock = some k → V2.ownBlock = some k) :
    BookC w1 ((w.setCell ⟨gb, 0, none⟩ V1').setCell ⟨gb, 1, none⟩ V2') gb K vs V1' V2' h cs := by
  have hx : Ext (fun k => k = gb) w ((w.setCell ⟨gb, 0, none⟩ V1').setCell ⟨gb, 1, none⟩ V2') := ((Ext.refl (fun k => k = gb) w).setCell (p := ⟨gb, 0, none⟩) (.inl rfl) _).setCell (p := ⟨gb, 1, none⟩) (.inl rfl) _
  refine ⟨(b.blk.set 0 _).set 1 _, b.hh, hT1.ext hx (fun k e hk => ?_), hT2.ext hx (fun k e hk => ?_), by have := b.len; simpa using this, fun i y c' i1 i2 => ?_, fun k e => ⟨(b.b1 k (h1 k e)).1, fun e2 => (b.b1 k (h1 k e)).2 (h2 k e2)⟩, fun k e => b.b2 k (h2 k e)⟩
  · have := (b.b1 k (h1 k e)).1; have hk : k = gb := hk; omega
  · have := b.b2 k (h2 k e); have hk : k = gb := hk; omega
  · obtain ⟨A, cp, e, hr, hb⟩ := b.cp (i + 1) y c' (by simpa using i1) (by simpa using i2)
    exact ⟨A, cp, e, rowL hr hx (fun ad e hp hk => by have := (hb ad e hp).1; have hk : ad.block = gb := hk; omega), fun ad e hp => ⟨(hb ad e hp).1, fun e2 => (hb ad e hp).2.1 (h1 _ e2), fun e2 => (hb ad e hp).2.2 (h2 _ e2)⟩⟩
end
/-- The book. w1: the world in which it was begun. -/
structure BookAt (w1 w : World) (gb : Nat) (K : List Kp) : Prop where
  ext : Ext (fun k => k = gb) w1 w
  lt : gb < w1.heap.size
  own : ∀ x ∈ K, OwnB w1 (fun k => k ≠ gb) x.v x.l ∧ x.l.length ≤ 140737488355328
  apart : K.Pairwise (fun x y => ∀ k, x.v.ownBlock = some k → ¬ y.v.ownBlock = some k)
  c : ∃ V1 V2 h cs, BookC w1 w gb K (K.map Kp.v) V1 V2 h cs
section
variable {w1 w w' : World} {gb : Nat} {K : List Kp}
theorem BookAt.ext0 (b : BookAt w1 w gb K) (hx : Ext None_ w w') : BookAt w1 w' gb K := by
  obtain ⟨h1, h2, h3, h4, V1, V2, h, cs, h5⟩ := b
  exact ⟨h1.trans0 hx, h2, h3, h4, V1, V2, h, cs, h5.ext0 hx⟩
theorem BookAt.start (hb : Blk w gb #[.slice none 0 0, .slice none 0 0, .int .i64 0, .bool false] 61) : BookAt w w gb [] :=
  ⟨Ext.refl _ _, hb.lt, fun x hx => by simp at hx, List.Pairwise.nil, _, _, 0, [], ⟨hb, by unfold I64; omega, Tab.nil _, Tab.nil _, rfl, fun i x c h => by simp at h, fun k e => by simp [Value.ownBlock] at e, fun k e => by simp [Value.ownBlock] at e⟩⟩
end
end Go.Proofs.Ytghkgfeamijefaa
