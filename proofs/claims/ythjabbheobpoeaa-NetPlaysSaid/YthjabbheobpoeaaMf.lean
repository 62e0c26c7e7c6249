/- A map of links, as a function of two numbers: made, asked, written, struck. -/
import Derived.Test.YthjabbheobpoeaaReg7
import Derived.Test.YthjabbheobpoeaaChecked
import Derived.DeepKeys4
import Derived.Maps.Own
import Derived.Maps.OwnSet
import Derived.Maps.Views
import Derived.WideKeyEntry
set_option linter.unusedVariables false
set_option linter.unusedSimpArgs false
namespace Go.Proofs.Ythjabbheobpoeaa
open Go.RowKit B
open Go.Maps (Keyed)
open Go.WideMaps (KeyLaw)
open Go.WideElems (Fit)
open Go.ChangeMaps (setBlock heap_setBlock_same heap_setBlock_other)
def I64 (n : Int) : Prop := -9223372036854775808 ≤ n ∧ n ≤ 9223372036854775807
theorem laidOut : laidOutB Try.prog = true := by kernel_rfl
theorem lkWide : (match Try.prog.underlying 38 with | some (.array _ _) | some (.struct _) => true | _ => false) = true := by kernel_rfl
theorem lkLaw : KeyLaw Try.prog 38 := deep_law_laid laidOut (m := 2) (by omega) (of_decide_eq_true (by kernel_rfl)) (by kernel_rfl) lkWide
theorem lkK : Keyed Try.prog 38 := Keyed.of_law lkLaw
abbrev kv (a c : Int) : Value := .agg #[.int .i64 a, .int .i64 c]
theorem i64_wf {n : Int} (h : I64 n) : (Lit.int .i64 n).wf = true := by
  obtain ⟨h1, h2⟩ := h
  simp only [Lit.wf, IntKind.min, IntKind.max, IntKind.signed, IntKind.bits, Bool.and_eq_true, decide_eq_true_eq]
  constructor <;> simp <;> omega
theorem entry_same {es : List MapEntry} (h : (es.map (·.key)).Nodup) {x y : MapEntry} (hx : x ∈ es) (hy : y ∈ es) (he : x.key = y.key) : x = y := by
  have h : es.Pairwise (fun x y => x.key ≠ y.key) := List.pairwise_map.1 h
  obtain ⟨i, hi, rfl⟩ := List.getElem_of_mem hx
  obtain ⟨j, hj, rfl⟩ := List.getElem_of_mem hy
  have hp := List.pairwise_iff_getElem.1 h
  rcases Nat.lt_trichotomy i j with h | h | h
  · exact absurd he (hp i j hi hj h)
  · subst h; rfl
  · exact absurd he.symm (hp j i hj hi h)
theorem kv_key (a c : Int) (ha : I64 a) (hc : I64 c) : ∃ s, keyOf Try.prog 38 (kv a c) = some s := by
  have hw1 := i64_wf ha
  have hw2 := i64_wf hc
  have hu : Try.prog.underlying 38 = some (.array 2 3) := by kernel_rfl
  have hkt : Try.prog.keyType 38 = true := by kernel_rfl
  have hf : (kv a c).formed Try.prog 38 = true := by
    have hc2 : Try.prog.cellsOf 38 = 2 := by kernel_rfl
    simp [kv, Value.formed, hu, hc2]
  have hc2 : Try.prog.cellsOf 38 = 2 := by kernel_rfl
  have hc1 : Try.prog.cellsOf 3 = 1 := by kernel_rfl
  have hui : Try.prog.underlying 3 = some (.int .i64) := by kernel_rfl
  obtain ⟨m, hm⟩ : ∃ m, Try.prog.types.size + 1 = m + 2 := ⟨Try.prog.types.size - 1, by have : Try.prog.types.size ≥ 1 := of_decide_eq_true (by kernel_rfl); omega⟩
  unfold keyOf
  rw [hu]
  simp only [hkt, hf, Bool.and_self, if_true, hm]
  simp only [kv, Value.cells, Program.keyLits, hu, hc2, hc1]
  rw [show List.range 2 = [0, 1] from rfl]
  simp [hui, hw1, hw2]
noncomputable def lk (a c : Int) : Lit := (keyOf Try.prog 38 (kv a c)).getD (.bool false)
theorem lk_eq {a c : Int} (ha : I64 a) (hc : I64 c) : keyOf Try.prog 38 (kv a c) = some (lk a c) := by
  obtain ⟨s, hs⟩ := kv_key a c ha hc
  unfold lk
  rw [hs]
  rfl
theorem lk_ne {a c a' c' : Int} (ha : I64 a) (hc : I64 c) (ha' : I64 a') (hc' : I64 c') (h : ¬ (a = a' ∧ c = c')) : lk a c ≠ lk a' c' := fun e => by
  have h1 := lk_eq ha hc
  have h2 := lk_eq ha' hc'
  rw [← e] at h2
  have := lkK.inj h1 h2
  simp [kv] at this
  exact h this
/-- How an element reads: as itself. -/
def Rh (v : Value) : Option (DataW Value × List MemPlace) := some (.held v, [])
/-- A map of links at block b: at a, c stands V a c (z where nothing stands). n: a bound on its entries. -/
def MapF (w : World) (z : Value) (b n : Nat) (V : Int → Int → Value) : Prop := ∃ D : DataW Value, w.ownsMap Try.prog 38 Rh b n D ∧ ∀ a c, I64 a → I64 c → D.atKey (lk a c) (.held z) = .held (V a c)
def upd (V : Int → Int → Value) (a c : Int) (v : Value) : Int → Int → Value := fun x y => if x = a ∧ y = c then v else V x y
section
variable {w w' : World} {z : Value} {b n : Nat} {V : Int → Int → Value}
theorem MapF.lt (h : MapF w z b n V) : b < w.heap.size := by obtain ⟨D, h, _⟩ := h; exact h.lt
theorem MapF.mono (h : MapF w z b n V) {n' : Nat} (hn : n ≤ n') : MapF w z b n' V := by obtain ⟨D, h, h2⟩ := h; exact ⟨D, h.mono hn, h2⟩
theorem MapF.ext {S : Nat → Prop} (h : MapF w z b n V) (hx : Ext S w w') (hn : ¬ S b) : MapF w' z b n V := by
  obtain ⟨D, ⟨es, clock, hb, F, hs, hD⟩, h2⟩ := h
  exact ⟨D, ⟨es, clock, hx.get hb hn, F, hs, hD⟩, h2⟩
theorem MapF.ext0 (h : MapF w z b n V) (hx : Ext None_ w w') : MapF w' z b n V := h.ext hx (fun a => a)
theorem MapF.made (w : World) (z : Value) : MapF (w.alloc (.map #[] 0)) z w.heap.size 0 (fun _ _ => z) := ⟨.map [], World.ownsMap_made w _ _ _, fun a c _ _ => rfl⟩
theorem MapF.look (h : MapF w z b n V) {t e : TypeId} (ht : Try.prog.underlying t = some (.map 38 e)) (hz : (zeroValue e).run Try.prog w = .ok z w) {a c : Int} (ha : I64 a) (hc : I64 c) : (Instr.lookup t (.map (some b)) (kv a c) false).run Try.prog w = .ok (V a c) w := by
  obtain ⟨D, h1, h2⟩ := h
  obtain ⟨v, ps, hr, hv⟩ := h1.lookup lkK ht hz (zd := .held z) (zp := []) rfl (lk_eq ha hc)
  rw [hr]
  have : DataW.held v = DataW.held (V a c) := by
    rw [← h2 a c ha hc]
    unfold Rh at hv
    injection hv with hv
    injection hv
  injection this with this
  rw [this]
theorem put_at (D : DataW Value) (hD : Go.Maps.IsMap D) (hV : ∀ a c, I64 a → I64 c → D.atKey (lk a c) (.held z) = .held (V a c)) {a c : Int} (ha : I64 a) (hc : I64 c) (v : Value) : ∀ x y, I64 x → I64 y → (D.put (lk a c) (.held v)).atKey (lk x y) (.held z) = .held (upd V a c v x y) := by
  intro x y hx hy
  unfold upd
  split
  · rename_i e
    rw [e.1, e.2]
    exact Go.Maps.atKey_put_same hD (lkK.key (lk_eq ha hc)) _ _
  · rename_i e
    rw [Go.Maps.atKey_put_other (lk_ne hx hy ha hc e)]
    exact hV x y hx hy
theorem MapF.put (h : MapF w z b n V) (hn : n < maxLen) {t e : TypeId} (ht : Try.prog.underlying t = some (.map 38 e)) {a c : Int} (ha : I64 a) (hc : I64 c) (v : Value) : ∃ w', (Instr.mapUpdate t (.map (some b)) (kv a c) v).run Try.prog w = .ok () w' ∧ MapF w' z b (n + 1) (upd V a c v) ∧ Ext (fun k => k = b) w w' := by
  obtain ⟨D, h1, h2⟩ := h
  obtain ⟨w', hr, h3, h4⟩ := h1.update lkK ht hn (lk_eq ha hc) (d := .held v) (ps := []) rfl
  exact ⟨w', hr, ⟨_, h3, put_at D h1.isMap h2 ha hc v⟩, (Ext.refl _ _).grown h4 (fun k hk => .inl (by cases hk; rfl))⟩
theorem MapF.drop (h : MapF w z b n V) {t e : TypeId} (ht : Try.prog.underlying t = some (.map 38 e)) {a c : Int} (ha : I64 a) (hc : I64 c) (ty : TypeId) : ∃ w', (Builtin.delete_ #[t, 38] ty #[.map (some b), kv a c]).run Try.prog w = .ok (.tuple #[]) w' ∧ MapF w' z b n (upd V a c z) ∧ Ext (fun k => k = b) w w' := by
  obtain ⟨D, h1, h2⟩ := h
  obtain ⟨w', hr, h3, es, clock, es', clock', hb, hw⟩ := h1.drop lkK ht (lk_eq ha hc) ty
  refine ⟨w', hr, ⟨_, h3, fun x y hx hy => ?_⟩, ?_⟩
  · unfold upd
    split
    · rename_i e
      rw [e.1, e.2]
      exact Go.Maps.atKey_del_same _
    · rename_i e
      rw [Go.Maps.atKey_del_other (lk_ne hx hy ha hc e)]
      exact h2 x y hx hy
  · subst hw
    exact ⟨rfl, rfl, rfl, by simp [setBlock], fun k _ hk => heap_setBlock_other hb _ (fun e => hk e)⟩
/-- m[k] = f(m[k]): first the entry is asked for, then (the map untouched meanwhile) its element is laid. -/
theorem MapF.entry (h : MapF w z b n V) (hn : n < maxLen) {t e : TypeId} (ht : Try.prog.underlying t = some (.map 38 e)) (hz : ∀ u : World, (zeroValue e).run Try.prog u = .ok z u) {a c : Int} (ha : I64 a) (hc : I64 c) :
    ∃ (st : Nat) (w1 : World), (Instr.mapEntry t (.map (some b)) (kv a c)).run Try.prog w = .ok (.tuple #[V a c, goInt st]) w1 ∧ Ext (fun k => k = b) w w1 ∧
      ∀ (w2 : World) (v : Value), w2.heap[b]? = w1.heap[b]? → ∃ w3, (Instr.entryStore t (.map (some b)) (goInt st) v).run Try.prog w2 = .ok () w3 ∧ MapF w3 z b (n + 1) (upd V a c v) ∧ Ext (fun k => k = b) w2 w3 := by
  have hlook := h.look ht (hz w) ha hc
  obtain ⟨D, h1, h2⟩ := h
  obtain ⟨es, clock, hb, F, hs, hD⟩ := id h1
  obtain ⟨v0, st, es1, clock1, hr, hv0, hst⟩ := Go.WideElems.entry_then_store lkLaw ht hz hb F (lk_eq ha hc)
  have hv : v0 = V a c := by
    rcases Go.Maps.fit_look false lkK ht (hz w) hb F (lk_eq ha hc) with ⟨k1, k2, _⟩ | ⟨e0, y, k1, k2, k3, _⟩
    · rcases hv0 with ⟨e0, q1, q2, q3⟩ | ⟨_, q2⟩
      · exact absurd q2 (k2 e0 q1)
      · have := k1.symm.trans hlook
        simp at this
        rw [q2, this]
    · rcases hv0 with ⟨e1, q1, q2, q3⟩ | ⟨q1, _⟩
      · have hee : e1 = e0 := by
          obtain ⟨_, s2, s3⟩ := F.stamped
          exact entry_same s3 q1 k1 (q2.trans k2.symm)
        have := k3.symm.trans hlook
        simp at this
        rw [q3, hee, this]
      · exact absurd k2 (q1 e0 k1)
  subst hv
  refine ⟨st, _, hr, ⟨rfl, rfl, rfl, by simp [setBlock], fun k _ hk => heap_setBlock_other hb _ (fun e => hk e)⟩, fun w2 v hw2 => ?_⟩
  have hb1 : (setBlock w b (.map es1 clock1)).heap[b]? = some (.map es1 clock1) := heap_setBlock_same hb _
  rw [hb1] at hw2
  obtain ⟨es', clock', r1, r2⟩ := hst w2 v hw2
  obtain ⟨w', hr', h3, h4⟩ := h1.update lkK ht hn (lk_eq ha hc) (d := .held v) (ps := []) rfl
  have hw' : w' = setBlock w b (.map es' clock') := by
    have := hr'.symm.trans r2
    injection this
  have hb2 : w'.heap[b]? = some (.map es' clock') := by rw [hw']; exact heap_setBlock_same hb _
  refine ⟨_, r1, ?_, ⟨rfl, rfl, rfl, by simp [setBlock], fun k _ hk => heap_setBlock_other hw2 _ (fun e => hk e)⟩⟩
  obtain ⟨es2, clock2, hb3, F2, hs2, hD2⟩ := h3
  rw [hb2] at hb3
  cases hb3
  exact ⟨_, ⟨es', clock', heap_setBlock_same hw2 _, F2, hs2, hD2⟩, put_at D h1.isMap h2 ha hc v⟩
end
end Go.Proofs.Ythjabbheobpoeaa
