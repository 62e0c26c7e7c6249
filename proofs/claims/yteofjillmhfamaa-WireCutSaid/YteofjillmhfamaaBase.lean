/- Words of this session for walks by hand: worlds that agree but for some blocks, blocks known whole, rows of cells that are read, rows of a call's own. No program in sight. -/
import Derived.Below
import Derived.Deep.DeepAppendWide
import Derived.Laws.OwnMore
import Derived.Laws.MakeOwn
import Derived.Maps.AppendAt
import Derived.WalkKit
import Derived.ProofKit
import Derived.Lib.Hide
import Derived.Deep.Draws
import Derived.Laws.Slices
import Derived.Deep.Quiet
import Derived.BigQuiet
set_option linter.unusedVariables false
set_option linter.unusedSimpArgs false
namespace Go.Proofs.Yteofjillmhfamaa.B
open Go Go.RowKit

/-! ### worlds -/
/-- Behind: every block that was there and is not in S is as it was. -/
structure Ext (S : Nat → Prop) (w w' : World) : Prop where
  os : w'.os = w.os
  tape : w'.tape = w.tape
  output : w'.output = w.output
  size : w.heap.size ≤ w'.heap.size
  block : ∀ k, k < w.heap.size → ¬ S k → w'.heap[k]? = w.heap[k]?

def None_ : Nat → Prop := fun _ => False

section
variable {S S1 : Nat → Prop} {w w1 w2 : World}
theorem Ext.refl (S : Nat → Prop) (w : World) : Ext S w w := ⟨rfl, rfl, rfl, Nat.le_refl _, fun _ _ _ => rfl⟩
theorem Ext.mono (h : Ext S w w1) (hs : ∀ k, k < w.heap.size → S k → S1 k) : Ext S1 w w1 := ⟨h.os, h.tape, h.output, h.size, fun k hk hn => h.block k hk (fun a => hn (hs k hk a))⟩
theorem Ext.trans (h : Ext S w w1) (k : Ext S1 w1 w2) (hs : ∀ k, k < w.heap.size → S1 k → S k) : Ext S w w2 :=
  ⟨k.os.trans h.os, k.tape.trans h.tape, k.output.trans h.output, Nat.le_trans h.size k.size, fun i hi hn => (k.block i (Nat.lt_of_lt_of_le hi h.size) (fun a => hn (hs i hi a))).trans (h.block i hi hn)⟩
theorem Ext.trans0 (h : Ext S w w1) (k : Ext None_ w1 w2) : Ext S w w2 := h.trans k (fun _ _ a => a.elim)
theorem Ext.alloc (h : Ext S w w1) (o : Obj) : Ext S w (w1.alloc o) :=
  ⟨h.os, h.tape, h.output, Nat.le_trans h.size (by simp), fun k hk hn => (Below.heap_alloc _ _ _ (Nat.lt_of_lt_of_le hk h.size)).trans (h.block k hk hn)⟩
theorem Ext.drew (h : Ext S w w1) : Ext S w w1.drew := ⟨h.os, h.tape, h.output, h.size, h.block⟩
theorem Ext.drewN (h : Ext S w w1) (n : Nat) : Ext S w (w1.drewN n) := ⟨h.os, h.tape, h.output, h.size, h.block⟩
theorem Ext.setCell (h : Ext S w w1) {p : Addr} (hp : S p.block ∨ w.heap.size ≤ p.block) (u : Value) : Ext S w (w1.setCell p u) :=
  ⟨h.os, h.tape, h.output, by simp [World.setCell]; exact h.size, fun k hk hn => (Below.heap_setCell _ _ _ _ (fun e => by subst e; rcases hp with hp | hp; exact hn hp; omega)).trans (h.block k hk hn)⟩
theorem Ext.grown (h : Ext S w w1) {row : Option Nat} (hg : w1.grownBy w2 row) (hr : ∀ k, row = some k → S k ∨ w.heap.size ≤ k) : Ext S w w2 :=
  ⟨hg.os.trans h.os, hg.tape.trans h.tape, hg.output.trans h.output, Nat.le_trans h.size hg.size, fun k hk hn => (hg.block k (Nat.lt_of_lt_of_le hk h.size) (fun e => by rcases hr k e.symm with a | a; exact hn a; omega)).trans (h.block k hk hn)⟩
theorem Ext.below (h : Ext None_ w w1) : Below w.heap.size w w1 := ⟨h.os, h.tape, h.output, h.size, fun k hk => h.block k hk (fun a => a)⟩
theorem Ext.ofBelow (h : Below w.heap.size w w1) : Ext S w w1 := ⟨h.os, h.tape, h.output, h.size, fun k hk _ => h.block k hk⟩
theorem Ext.get (h : Ext S w w1) {g : Nat} {o : Obj} (hg : w.heap[g]? = some o) (hn : ¬ S g) : w1.heap[g]? = some o :=
  (h.block g (Array.getElem?_eq_some_iff.1 hg).1 hn).trans hg
theorem Ext.cell (h : Ext S w w1) {a : Addr} {v : Value} (hc : w.cell? a = some v) (hn : ¬ S a.block) : w1.cell? a = some v :=
  (World.cell?_of_block (w := w) (h.block _ (World.block_lt_of_cell? w a hc) hn)).trans hc
end

/-! ### a block known whole -/
def Blk (w : World) (g : Nat) (cs : Array Value) (t : TypeId) : Prop := w.heap[g]? = some (.cells cs t (0, 0))
section
variable {S : Nat → Prop} {w w1 : World} {g : Nat} {cs : Array Value} {t : TypeId}
theorem Blk.lt (h : Blk w g cs t) : g < w.heap.size := (Array.getElem?_eq_some_iff.1 h).1
theorem Blk.cell (h : Blk w g cs t) (i : Nat) : w.cell? ⟨g, i, none⟩ = cs[i]? := cell_of_row w g i cs t (0, 0) h
theorem Blk.frozen (h : Blk w g cs t) (i : Nat) : w.frozen? ⟨g, i, none⟩ = false := by
  have h' : w.heap[g]? = some (.cells cs t (0, 0)) := h
  simp [World.frozen?, h']
theorem Blk.ext (h : Blk w g cs t) (he : Ext S w w1) (hn : ¬ S g) : Blk w1 g cs t := he.get h hn
theorem Blk.set (h : Blk w g cs t) (i : Nat) (u : Value) : Blk (w.setCell ⟨g, i, none⟩ u) g (cs.setIfInBounds i u) t := by
  have h' : w.heap[g]? = some (.cells cs t (0, 0)) := h
  show (w.setCell ⟨g, i, none⟩ u).heap[g]? = _
  simp [World.setCell, Array.getElem?_modify, h']
theorem Blk.far (h : Blk w g cs t) {p : Addr} (hp : g ≠ p.block) (u : Value) : Blk (w.setCell p u) g cs t := (Below.heap_setCell w p u g hp).trans h
theorem Blk.alloc (h : Blk w g cs t) (o : Obj) : Blk (w.alloc o) g cs t := h.ext ((Ext.refl None_ w).alloc o) (fun a => a)
theorem Blk.drew (h : Blk w g cs t) : Blk w.drew g cs t := h
theorem Blk.drewN (h : Blk w g cs t) (n : Nat) : Blk (w.drewN n) g cs t := h
theorem Blk.new (w : World) (cs : Array Value) (t : TypeId) : Blk (w.alloc (.cells cs t)) w.heap.size cs t := heap_alloc_new w _
end

/-! ### a row of cells that is read -/
theorem add_plain (g j : Nat) : (⟨g, 0, none⟩ : Addr).add j = ⟨g, j, none⟩ := by unfold Addr.add; split <;> simp_all
theorem add_block (a : Addr) (i : Nat) : (a.add i).block = a.block := by unfold Addr.add; split <;> rfl
theorem add_add (a : Addr) (i j : Nat) : (a.add i).add j = a.add (i + j) := by
  unfold Addr.add
  repeat (first | split | simp_all [Nat.add_assoc])

def Row (w : World) (A : Option Addr) (vs : List Value) : Prop := ∀ i v, vs[i]? = some v → ∃ ad, A = some ad ∧ w.cell? (ad.add i) = some v
section
variable {S : Nat → Prop} {w w1 : World} {A : Option Addr} {vs : List Value}
theorem Row.nil (w : World) (A : Option Addr) : Row w A [] := fun i v h => by simp at h
theorem Row.ext (h : Row w A vs) (he : Ext S w w1) (hn : ∀ ad, A = some ad → ¬ S ad.block) : Row w1 A vs := fun i v hi => by
  obtain ⟨ad, hA, hc⟩ := h i v hi
  exact ⟨ad, hA, he.cell hc (by rw [add_block]; exact hn ad hA)⟩
theorem Row.ext0 (h : Row w A vs) (he : Ext None_ w w1) : Row w1 A vs := h.ext he (fun _ _ a => a)
theorem Row.at_ {ad : Addr} (h : Row w (some ad) vs) {i : Nat} (hi : i < vs.length) : w.cell? (ad.add i) = some vs[i] := by
  obtain ⟨ad', hA, hc⟩ := h i vs[i] (by simp)
  cases hA
  exact hc
theorem Row.some (h : Row w A vs) (hi : 0 < vs.length) : ∃ ad, A = some ad := by
  obtain ⟨ad, hA, _⟩ := h 0 vs[0] (by simp)
  exact ⟨ad, hA⟩
theorem Row.lt (h : Row w A vs) (hi : 0 < vs.length) : ∀ ad, A = Option.some ad → ad.block < w.heap.size := by
  intro ad hA
  obtain ⟨ad', hA', hc⟩ := h 0 vs[0] (by simp)
  rw [hA] at hA'
  cases hA'
  have := World.block_lt_of_cell? w _ hc
  rwa [add_block] at this
theorem Row.take (h : Row w A vs) (n : Nat) : Row w A (vs.take n) := fun i v hi => h i v (by
  rw [List.getElem?_take] at hi
  split at hi
  · exact hi
  · cases hi)
theorem Row.drop (h : Row w A vs) (n : Nat) : Row w (A.map (·.add n)) (vs.drop n) := fun i v hi => by
  rw [List.getElem?_drop] at hi
  obtain ⟨ad, rfl, hc⟩ := h (n + i) v hi
  exact ⟨ad.add n, rfl, by rw [add_add]; exact hc⟩
theorem Row.drew (h : Row w A vs) : Row w.drew A vs := h
theorem Row.drewN (h : Row w A vs) (n : Nat) : Row (w.drewN n) A vs := h
theorem Blk.row {g : Nat} {cs : Array Value} {t : TypeId} (h : Blk w g cs t) : Row w (Option.some ⟨g, 0, none⟩) cs.toList := fun i v hi => by
  refine ⟨_, rfl, ?_⟩
  rw [add_plain, h.cell]
  simpa using hi
end

/-! ### cuts of a row that is read -/
theorem cut_row {A A' : Option Addr} {w : World} {vs : List Value} {lo hi c size : Nat} (h : Row w A vs) (hA : A' = if c = lo then A else A.map (·.add (lo * size))) (hl : vs.length ≤ c * size) : Row w A' ((vs.take (hi * size)).drop (lo * size)) := by
  by_cases e : c = lo
  · subst e
    rw [List.drop_eq_nil_of_le (by rw [List.length_take]; omega)]
    exact Row.nil _ _
  · rw [hA, if_neg e]
    exact (h.take _).drop _
theorem cut_block {A A' : Option Addr} {lo c size : Nat} (hA : A' = if c = lo then A else A.map (·.add (lo * size))) : ∀ ad', A' = some ad' → ∃ ad, A = some ad ∧ ad'.block = ad.block := by
  intro ad' e
  rw [hA] at e
  split at e
  · exact ⟨ad', e, rfl⟩
  · cases A with
    | none => cases e
    | some ad =>
      cases e
      exact ⟨ad, rfl, add_block _ _⟩
theorem cut_lh {P : Program} (t e size : Nat) {b : Nat} {z : Option Value} (ht : P.underlying t = some (.slice e)) (hinfo : (P.info? e).map (fun i => (i.zero, i.size, i.bytes)) = some (z, size, b)) (A : Option Addr) (n c : Nat) (lo hi : Int) (h0 : 0 ≤ lo) (h1 : lo ≤ hi) (h2 : hi ≤ c) :
    ∃ A', A' = (if c = lo.toNat then A else A.map (·.add (lo.toNat * size))) ∧ ∀ W : World, (Instr.slice t (.slice A n c) (some (.int .i64 lo)) (some (.int .i64 hi)) none).run P W = .ok (.slice A' (hi.toNat - lo.toNat) (c - lo.toNat)) W := by
  obtain ⟨i0, hi0, hzz⟩ := Option.map_eq_some_iff.1 hinfo
  simp only [Prod.mk.injEq] at hzz
  refine ⟨_, rfl, fun W => ?_⟩
  have hel : P.elem t = e := by simp [Program.elem, ht]
  have hu : P.underlying t = some (.slice (P.elem t)) := by rw [hel]; exact ht
  rw [run_slice_lh W t A n c hu .i64 .i64 lo hi h0 h1 h2, hel]
  simp [sizeOf, typeInfo, hi0, hzz.2.1, sliced, Result.andThen]
theorem cut_h {P : Program} (t e size : Nat) {b : Nat} {z : Option Value} (ht : P.underlying t = some (.slice e)) (hinfo : (P.info? e).map (fun i => (i.zero, i.size, i.bytes)) = some (z, size, b)) (A : Option Addr) (n c : Nat) (hi : Int) (h1 : 0 ≤ hi) (h2 : hi ≤ c) :
    ∃ A', A' = (if c = 0 then A else A.map (·.add (0 * size))) ∧ ∀ W : World, (Instr.slice t (.slice A n c) none (some (.int .i64 hi)) none).run P W = .ok (.slice A' hi.toNat c) W := by
  obtain ⟨i0, hi0, hzz⟩ := Option.map_eq_some_iff.1 hinfo
  simp only [Prod.mk.injEq] at hzz
  refine ⟨_, rfl, fun W => ?_⟩
  have hel : P.elem t = e := by simp [Program.elem, ht]
  have hu : P.underlying t = some (.slice (P.elem t)) := by rw [hel]; exact ht
  rw [run_slice_h W t A n c hu .i64 hi h1 h2, hel]
  simp [sizeOf, typeInfo, hi0, hzz.2.1, sliced, Result.andThen]
theorem cut_l {P : Program} (t e size : Nat) {b : Nat} {z : Option Value} (ht : P.underlying t = some (.slice e)) (hinfo : (P.info? e).map (fun i => (i.zero, i.size, i.bytes)) = some (z, size, b)) (A : Option Addr) (n c : Nat) (lo : Int) (h0 : 0 ≤ lo) (h1 : lo ≤ n) (h2 : n ≤ c) :
    ∃ A', A' = (if c = lo.toNat then A else A.map (·.add (lo.toNat * size))) ∧ ∀ W : World, (Instr.slice t (.slice A n c) (some (.int .i64 lo)) none none).run P W = .ok (.slice A' (n - lo.toNat) (c - lo.toNat)) W := by
  obtain ⟨i0, hi0, hzz⟩ := Option.map_eq_some_iff.1 hinfo
  simp only [Prod.mk.injEq] at hzz
  refine ⟨_, rfl, fun W => ?_⟩
  have hel : P.elem t = e := by simp [Program.elem, ht]
  have hu : P.underlying t = some (.slice (P.elem t)) := by rw [hel]; exact ht
  rw [run_slice_l W t A n c hu .i64 lo h0 h1, hel]
  simp [sizeOf, typeInfo, hi0, hzz.2.1, sliced, Result.andThen]

/-! ### rows of a call's own -/
structure Own (w : World) (e size : Nat) (ok : Nat → Prop) (v : Value) (n : Nat) (vs : List Value) : Prop where
  own : w.ownsRow 0 e size v n vs
  blk : ∀ k, v.ownBlock = some k → ok k
section
variable {S ok ok1 : Nat → Prop} {w w1 : World} {e size n : Nat} {v : Value} {vs : List Value}
theorem Own.nil (w : World) (e size : Nat) (ok : Nat → Prop) : Own w e size ok (.slice none 0 0) 0 [] := ⟨World.ownsRow_nil w 0 e size, fun k h => by simp [Value.ownBlock] at h⟩
theorem Own.lt (h : Own w e size ok v n vs) : ∀ k, v.ownBlock = some k → k < w.heap.size := fun k hk => (h.own.lt k hk).2
theorem Own.mono (h : Own w e size ok v n vs) (hk : ∀ k, k < w.heap.size → ok k → ok1 k) : Own w e size ok1 v n vs := ⟨h.own, fun k e => hk k (h.lt k e) (h.blk k e)⟩
theorem Own.ext (h : Own w e size ok v n vs) (he : Ext S w w1) (hn : ∀ k, v.ownBlock = some k → ¬ S k) : Own w1 e size ok v n vs := by
  refine ⟨⟨h.own.1, ?_⟩, h.blk⟩
  rcases h.own.2 with a | ⟨g, cap, cur, rfl, hb, hg, rest⟩
  · exact .inl a
  · exact .inr ⟨g, cap, cur, rfl, hb, he.get hg (hn g rfl), rest⟩
theorem Own.ext0 (h : Own w e size ok v n vs) (he : Ext None_ w w1) : Own w1 e size ok v n vs := h.ext he (fun _ _ a => a)
theorem Own.slice (h : Own w e size ok v n vs) : ∃ A c, v = .slice A n c ∧ n ≤ c ∧ c ≤ maxLen ∧ Row w A vs := by
  have ho := h.own
  rcases h.own.2 with ⟨rfl, rfl⟩ | ⟨g, cap, cur, rfl, hb, hg, hn, hm, hs, ht⟩
  · have : vs = [] := List.eq_nil_of_length_eq_zero (by simpa using h.own.1)
    subst this
    exact ⟨none, 0, rfl, Nat.le_refl _, by simp [maxLen], Row.nil _ _⟩
  · refine ⟨_, cap, rfl, hn, hm, fun i u hi => ⟨_, rfl, ?_⟩⟩
    exact ho.cells (g := g) rfl i u hi
theorem Own.drew (h : Own w e size ok v n vs) : Own w.drew e size ok v n vs := h.ext0 (Ext.refl _ _).drew
theorem Own.alloc (h : Own w e size ok v n vs) (o : Obj) : Own (w.alloc o) e size ok v n vs := h.ext0 ((Ext.refl _ _).alloc o)
theorem Own.mono1 (h : Own w e size ok v n vs) {m : Nat} : Own w e size (fun k => v.ownBlock = some k ∨ m ≤ k) v n vs := ⟨h.own, fun k e => .inl e⟩
theorem Own.length (h : Own w e size ok v n vs) : vs.length = n * size := h.own.1
/-- A new block that holds nothing yet. -/
theorem Own.made (w : World) (cur : Array Value) (cap : Nat) (hm : cap ≤ maxLen) (hs : cur.size = cap * size) : Own (w.alloc (.cells cur e)) e size (fun k => k = w.heap.size) (.slice (some ⟨w.heap.size, 0, none⟩) 0 cap) 0 [] :=
  ⟨World.ownsRow_made w cur cap (Nat.zero_le _) hm hs, fun k hk => by simpa [Value.ownBlock] using hk.symm⟩
theorem Own.full (w : World) (cs : Array Value) (n : Nat) (hm : n ≤ maxLen) (hs : cs.size = n * size) : Own (w.alloc (.cells cs e)) e size (fun k => k = w.heap.size) (.slice (some ⟨w.heap.size, 0, none⟩) n n) n cs.toList :=
  ⟨World.ownsRow_lit w cs n (Nat.zero_le _) hm hs, fun k hk => by simpa [Value.ownBlock] using hk.symm⟩
end

/-! ### a region in any order, told once: its worlds stay in a class -/
structure InC (C : World → Prop) where
  W : World
  h : C W
theorem wp_region_in {P : Program} {id : Nat} {Q : Exit → Act → World → Prop} {a : Act} {w : World} {l : List Oper} (C : World → Prop) (hm : P.follows .mixedOrders = true) (hB : Region.lexB .any l.toArray = true) (hC : C w.drew)
    (h : wpQuiet P l.toArray (fun w' => ∃ p : InC C, w' = p.W) (fun a' => ∀ w', (∃ p : InC C, w' = p.W) → Q .normal a' w') l a) : (Code.region id l.toArray true).wp P Q a w :=
  wp_region_quiet (C := fun w' => ∃ p : InC C, w' = p.W) hm hB ⟨⟨w.drew, hC⟩, rfl⟩ (by simpa using h)
theorem Calls.in_of {P : Program} {f : FuncId} {args : Array Value} {C : World → Prop} {p : InC C} {v : Value} {S : Nat → Prop} (h : Calls P f args p.W fun e w' => e = .returned v ∧ Ext S p.W w') (hC : ∀ W w', C W → Ext S W w' → C w') :
    Calls P f args p.W fun e w' => e = .returned v ∧ ∃ q : InC C, w' = q.W :=
  h.mono fun _ w' ⟨he, hx⟩ => ⟨he, ⟨w', hC _ _ p.h hx⟩, rfl⟩
theorem Calls.in_same {P : Program} {f : FuncId} {args : Array Value} {C : World → Prop} {p : InC C} {v : Value} (h : Calls P f args p.W fun e w' => e = .returned v ∧ p.W = w') :
    Calls P f args p.W fun e w' => e = .returned v ∧ ∃ q : InC C, w' = q.W :=
  h.mono fun _ w' ⟨he, hx⟩ => ⟨he, p, hx.symm⟩

/-- append: what is there behind it. -/
theorem app {P : Program} {w : World} {ops : Array Oper} {rest : List Oper} {o : Oper} {a : Act} {Q : Exit → Act → World → Prop} (hgd : o.guard = none) (s x : Operand) (t : TypeId)
    (ho : o.op = .call { callee := .builtin .append, args := #[s, x], argTypes := #[t, t] })
    (e : TypeId) (z : Value) (size bytes : Nat) (ht : P.underlying t = some (.slice e)) (hinfo : (P.info? e).map (fun i => (i.zero, i.size, i.bytes)) = some (some z, size, bytes)) (hzs : z.cells.size = size) (hsz : 0 < size) (hb0 : 0 < bytes)
    (ok : Nat → Prop) (v : Value) (n : Nat) (xs : List Value) (hs : a.eval s = v) (hown : Own w e size ok v n xs)
    (A : Option Addr) (m c : Nat) (news : List Value) (hx : a.eval x = .slice A m c) (hl : news.length = m * size) (hnews : Row w A news) (h1 : ∀ u ∈ news, u.oneCell' = true)
    (hby0 : (n + m) * bytes ≤ 225000000000000)
    (h : ∀ v' w', Own w' e size (fun k => v.ownBlock = some k ∨ w.heap.size ≤ k) v' (n + m) (xs ++ news) → Ext (fun k => v.ownBlock = some k) w w' → wpList P ops Q rest (a.put o.dst v') w') (hbig : bytes ≤ 1000 := by decide) : wpList P ops Q (o :: rest) a w := by
  have hbytes : ((n + m) + (n + m) / 4 + 192) * bytes ≤ 281474976710656 := by
    have h4 : 4 * ((n + m) / 4) * bytes ≤ (n + m) * bytes := Nat.mul_le_mul_right _ (Nat.mul_div_le _ _)
    rw [Nat.mul_assoc] at h4
    rw [Nat.add_mul, Nat.add_mul]
    have h5 : 192 * bytes ≤ 192 * 1000 := Nat.mul_le_mul_left _ hbig
    omega
  obtain ⟨i0, hi, hzz⟩ := Option.map_eq_some_iff.1 hinfo
  simp only [Prod.mk.injEq] at hzz
  obtain ⟨hz0, hz1, hz2⟩ := hzz
  have hlen : n + m ≤ 281474976710656 := Nat.le_trans (Nat.le_trans (by omega : n + m ≤ (n + m) + (n + m) / 4 + 192) (Nat.le_mul_of_pos_right _ hb0)) hbytes
  cases A with
  | none =>
    have hn : news = [] := by
      cases news with
      | nil => rfl
      | cons u r =>
        obtain ⟨ad, e, _⟩ := hnews 0 u rfl
        cases e
    subst hn
    have hm : m = 0 := by
      rcases Nat.eq_zero_or_pos m with hm | hm
      · exact hm
      · have := Nat.mul_pos hm hsz
        simp at hl
        omega
    subst hm
    refine wpList_plain hgd fun K hK => ?_
    have hrun : (Builtin.append_ #[t, t] o.type #[v, .slice none 0 c]).run P w = .ok v w := by
      rcases hown.own.2 with ⟨rfl, rfl⟩ | ⟨g, cap, cur, rfl, _, _, hnc, _⟩
      · simp [Builtin.append_, run_underlying ht, sizeOf, typeInfo, hi, Builtin.lenOf, Builtin.firstCells]
      · simp [Builtin.append_, run_underlying ht, sizeOf, typeInfo, hi, Builtin.lenOf, Builtin.firstCells, hnc, storeCells]
    unfold Oper.wp
    simp [execOp, ho, resolve, invoke, builtin, hs, hx, hrun, Result.andThen]
    exact hK _ _ (h v w (by simpa using hown.mono1) (Ext.refl _ _))
  | some ad =>
    have hnews' : ∀ j u, news[j]? = some u → w.cell? (ad.add j) = some u := fun j u hj => by
      obtain ⟨ad', e, hc⟩ := hnews j u hj
      cases e
      exact hc
    obtain ⟨v', w', hr, h2, h3, h4⟩ := run_append_own_wide (P := P) w 0 t o.type e i0 z size bytes ht hi hz0 hz1 hz2 hzs hsz v n xs hown.own ad m c news hl hnews' h1 (by simp only [maxLen]; omega) hbytes (Nat.zero_le _)
    have hl' : news.length = m * i0.size := by rw [hz1]; exact hl
    have hat : v'.ownBlock = v.ownBlock ∨ v'.ownBlock = some w.heap.size := by
      rcases hown.own.2 with ⟨hv, hn0⟩ | ⟨g, cap, cur, hv, _, hg, hnc, hcm, hcs, _⟩
      · subst hv
        by_cases hm0 : m = 0
        · rw [h4.2 ⟨rfl, hm0⟩]
          exact .inl rfl
        · have hr2 := run_append_nil (P := P) w t o.type e i0 z ht hi hz0 ad m c news hl' hnews' (by omega) (by omega) (by
            rw [hz2]
            exact Nat.le_trans (Nat.mul_le_mul_right _ (by omega)) hbytes)
          rw [hr2] at hr
          injection hr with hv _
          rw [← hv]
          exact .inr rfl
      · subst hv
        by_cases hroom : n + m ≤ cap
        · have hr2 := run_append_room (P := P) w t o.type e i0 ht hi g n cap cur hg ad m c news hl' hnews' h1 hroom (by rw [hl', hcs, hz1, ← Nat.add_mul]; exact Nat.mul_le_mul_right _ hroom)
          rw [hr2] at hr
          injection hr with hv _
          rw [← hv]
          exact .inl rfl
        · have hr2 := run_append_grow (P := P) w t o.type e i0 z ht hi hz0 ⟨g, 0, none⟩ n cap xs (by rw [hz1]; exact hown.own.1) (hown.own.cells (g := g) rfl) ad m c news hl' hnews' (by omega) (by omega) (growslice_fits_wide (by omega) (by rw [hz2]; exact hbytes))
          rw [hr2] at hr
          injection hr with hv _
          rw [← hv]
          exact .inr rfl
    refine wpList_plain hgd fun K hK => ?_
    unfold Oper.wp execOp
    simp only [ho, resolve, invoke, builtin, Sem.run_bind, Sem.run_pure, Result.andThen_ok, List.map_toArray, List.map_cons, List.map_nil, hs, hx, hr]
    refine hK _ _ (h v' w' ⟨h2, fun k hk => ?_⟩ ((Ext.refl _ _).grown h3 (fun k hk => .inl hk)))
    rcases hat with hat | hat
    · exact .inl (hat ▸ hk)
    · rw [hat] at hk
      cases hk
      exact .inr (Nat.le_refl _)
end Go.Proofs.Yteofjillmhfamaa.B
