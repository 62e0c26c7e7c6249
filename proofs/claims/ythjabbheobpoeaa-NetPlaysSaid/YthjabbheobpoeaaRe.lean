/- The document's net: a row replaced. -/
import Derived.Test.YthjabbheobpoeaaRc
set_option linter.unusedVariables false
set_option linter.unusedSimpArgs false
namespace Go.Proofs.Ythjabbheobpoeaa
open Go.RowKit B
theorem there_upd {N : NS} (h : N.wf) {a b : Int} (ht : thereB N a b = true) (l : List Msg) : NS.wf { N with wait := updW N.wait a b l } := by
  refine ⟨fun x y hxy => ⟨?_, (h.1 x y hxy).2⟩, h.2⟩
  show updW N.wait a b l x y = []
  have hxy' : thereB N x y = false := hxy
  unfold updW
  by_cases e : x = a ∧ y = b
  · obtain ⟨rfl, rfl⟩ := e
    rw [ht] at hxy'
    cases hxy'
  · rw [if_neg e]
    exact (h.1 x y hxy').1
theorem RNAt.put {w W1 : World} {M C C1 : Nat → Prop} {g : Nat} {N : NS} {a b : Nat} {r r' : Value} {l' : List Msg} (h : RNAt w M C g N) (ha : a < 7) (hb : b < 7) (ht : thereB N a b = true) (hr : w.cell? ⟨g, 1 + a * 7 + b, none⟩ = some r) (hx : Ext (fun k => r.ownBlock = some k) w W1) (hq : QAt W1 C1 (fun k => r.ownBlock = some k ∨ w.heap.size ≤ k) r' l') (hCC : ∀ k, C k → C1 k) (hC1 : ∀ k, C1 k → C k ∨ w.heap.size ≤ k) (hCl : ∀ k, C1 k → k < W1.heap.size) (hCr : ∀ k, C1 k → ¬ r'.ownBlock = some k) (hl : l'.length ≤ 64) :
    RLeftN w (W1.setCell ⟨g, 1 + a * 7 + b, none⟩ r') M C g { N with wait := updW N.wait a b l' } ∧ (W1.cell? ⟨g, 1 + a * 7 + b, none⟩).isSome = true ∧ W1.frozen? ⟨g, 1 + a * 7 + b, none⟩ = false := by
  have hwf := there_upd h.wf ht l'
  obtain ⟨⟨cs, k1, k2, k3, k4, k5⟩, k6, a1, a2, a3, a4, a5, a6⟩ := h
  rw [k1.cell] at hr
  obtain ⟨⟨r0, q1, q2, q3⟩, _⟩ := k4 a b ha hb
  rw [hr] at q1
  obtain rfl : r = r0 := by simpa using q1
  have hrM : ∀ k, r.ownBlock = some k → M k := fun k e => q2.blk k e
  have hgl := a3 g k6
  have hk1 : Blk W1 g cs 69 := k1.ext hx (fun e => q3 g e rfl)
  have he : Ext (fun k => k = g) W1 (W1.setCell ⟨g, 1 + a * 7 + b, none⟩ r') := (Ext.refl (fun k => k = g) W1).setCell (p := ⟨g, 1 + a * 7 + b, none⟩) (Or.inl rfl) _
  have hs := he.size
  have hs1 := hx.size
  have hr'g : ∀ k, r'.ownBlock = some k → k ≠ g := fun k e => by
    rcases hq.blk k e with q | q
    · exact q3 k q
    · omega
  refine ⟨⟨fun k => M k ∨ r'.ownBlock = some k, C1, ⟨⟨_, hk1.set (1 + a * 7 + b) r', by simp [k2], by rw [Array.getElem?_setIfInBounds_ne (by omega)]; exact k3, fun x y hx' hy' => ?_, fun x y x' y' hx1 hy1 hx2 hy2 hne u u' k e1 e2 e3 e4 => ?_⟩, .inl k6, fun k hk hm => ?_, fun k hk => Nat.lt_of_lt_of_le (hCl k hk) hs, fun k hk => ?_, a4, fun x y => ?_, hwf⟩, (hx.mono (fun k _ e => hrM k e)).trans he (fun k _ e => by have e : k = g := e; rw [e]; exact k6), fun k hk => ?_, hC1⟩, ?_, hk1.frozen _⟩
  · obtain ⟨⟨u, p1, p2, p3⟩, p4⟩ := k4 x y hx' hy'
    by_cases e : x = a ∧ y = b
    · obtain ⟨rfl, rfl⟩ := e
      refine ⟨⟨r', by rw [Array.getElem?_setIfInBounds_self_of_lt (by omega)], ?_, hr'g⟩, by rw [Array.getElem?_setIfInBounds_ne (by omega)]; exact p4⟩
      show QAt _ _ _ r' (updW N.wait x y l' x y)
      unfold updW
      rw [if_pos ⟨rfl, rfl⟩]
      obtain ⟨pv, z1, z2, z3⟩ := hq.ext he (fun k hk e => hr'g k hk e) (fun k hk e => by
        have e : k = g := e
        subst e
        rcases hC1 k hk with q | q
        · exact a1 k q k6
        · omega)
      exact ⟨pv, z1, ⟨z2.own, fun k e => .inr e⟩, z3⟩
    · refine ⟨⟨u, by rw [Array.getElem?_setIfInBounds_ne (by omega)]; exact p1, ?_, p3⟩, by rw [Array.getElem?_setIfInBounds_ne (by omega)]; exact p4⟩
      show QAt _ _ _ u (updW N.wait a b l' x y)
      unfold updW
      rw [if_neg (by omega)]
      exact ((p2.ext hx (fun k hk e => k5 x y a b hx' hy' ha hb (by omega) u r k p1 hr hk e) (fun k hk e => a1 k hk (hrM k e))).ext he (fun k hk e => p3 k hk e) (fun k hk e => a1 k hk (by have e : k = g := e; rw [e]; exact k6))).mono (fun k h => .inl h) hCC
  · have hget : ∀ (x y : Nat) (u : Value), x < 7 → y < 7 → (cs.setIfInBounds (1 + a * 7 + b) r')[1 + x * 7 + y]? = some u → ((x = a ∧ y = b) ∧ u = r') ∨ (¬ (x = a ∧ y = b) ∧ cs[1 + x * 7 + y]? = some u) := fun x y u hx hy h => by
      by_cases e : x = a ∧ y = b
      · obtain ⟨rfl, rfl⟩ := e
        rw [Array.getElem?_setIfInBounds_self_of_lt (by omega)] at h
        exact .inl ⟨⟨rfl, rfl⟩, (Option.some.inj h).symm⟩
      · rw [Array.getElem?_setIfInBounds_ne (by omega)] at h
        exact .inr ⟨e, h⟩
    have hold : ∀ (x y : Nat) (u : Value) (k : Nat), x < 7 → y < 7 → ¬ (x = a ∧ y = b) → cs[1 + x * 7 + y]? = some u → u.ownBlock = some k → ¬ r'.ownBlock = some k := fun x y u k hx hy hne hu hk hk' => by
      rcases hq.blk k hk' with q | q
      · exact k5 x y a b hx hy ha hb hne u r k hu hr hk q
      · obtain ⟨⟨u2, p1, p2, _⟩, _⟩ := k4 x y hx hy
        rw [hu] at p1
        cases p1
        have := a3 k (p2.blk k hk)
        omega
    rcases hget x y u hx1 hy1 e1 with ⟨f1, f2⟩ | ⟨f1, f2⟩
    · rcases hget x' y' u' hx2 hy2 e2 with ⟨f3, f4⟩ | ⟨f3, f4⟩
      · omega
      · exact hold x' y' u' k hx2 hy2 f3 f4 e4 (f2 ▸ e3)
    · rcases hget x' y' u' hx2 hy2 e2 with ⟨f3, f4⟩ | ⟨f3, f4⟩
      · exact hold x y u k hx1 hy1 f1 f2 e3 (f4 ▸ e4)
      · exact k5 x y x' y' hx1 hy1 hx2 hy2 hne u u' k f2 f4 e3 e4
  · rcases hm with hm | hm
    · rcases hC1 k hk with q | q
      · exact a1 k q hm
      · have := a3 k hm; omega
    · exact hCr k hk hm
  · rcases hk with hk | hk
    · have := a3 k hk; omega
    · have := hq.lt k hk; omega
  · show (updW N.wait a b l' x y).length ≤ 64
    unfold updW
    split
    · exact hl
    · exact a5 x y
  · rcases hk with hk | hk
    · exact .inl hk
    · rcases hq.blk k hk with q | q
      · exact .inl (hrM k q)
      · exact .inr q
  · rw [hk1.cell]
    simp; omega
end Go.Proofs.Ythjabbheobpoeaa
