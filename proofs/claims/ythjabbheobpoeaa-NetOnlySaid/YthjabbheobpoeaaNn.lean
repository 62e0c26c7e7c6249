/- draylaw26, NetOnly: what is sent and what the net holds, no program in sight. -/
import Derived.Test.YthjabbheobpoeaaNm
set_option linter.unusedVariables false
set_option linter.unusedSimpArgs false
namespace Go.Proofs.Ythjabbheobpoeaa
open Go.RowKit B
def updS (S : Nat → Nat → List Int) (a b : Nat) (l : List Int) : Nat → Nat → List Int := fun x y => if x = a ∧ y = b then l else S x y
/-- The net of n nodes holds just what S tells; i messages were sent. -/
structure OR (N : NS) (n : Nat) (S : Nat → Nat → List Int) (i : Nat) : Prop where
  num : N.n = n
  wt : ∀ a b : Nat, a < n → b < n → N.wait a b = (S a b).map (fun t => mkM 1 a b t)
  cut : ∀ a b : Int, N.cut a b = 0
  nd : ∀ a b, (S a b).Nodup
  rng : ∀ a b t, t ∈ S a b → 1 ≤ t ∧ t ≤ i
  len : ∀ a b, (S a b).length ≤ i
theorem OR.new (n : Nat) : OR ⟨n, fun _ _ => [], fun _ _ => 0⟩ n (fun _ _ => []) 0 :=
  ⟨rfl, fun _ _ _ _ => rfl, fun _ _ => rfl, fun _ _ => List.nodup_nil, fun _ _ t h => by simp at h, fun _ _ => by simp⟩
theorem OR.there {N : NS} {n i : Nat} {S : Nat → Nat → List Int} (h : OR N n S i) {a b : Nat} (ha : a < n) (hb : b < n) : thereB N a b = decide (a ≠ b) := by
  unfold thereB
  rw [h.num]
  by_cases e : a = b
  · rw [decide_eq_false (by omega), decide_eq_false (by simpa using e)]
  · rw [decide_eq_true (by omega), decide_eq_true (by simpa using e)]
def sendS (S : Nat → Nat → List Int) (a b i : Nat) : Nat → Nat → List Int := if a = b then S else updS S a b (S a b ++ [(i : Int) + 1])
theorem OR.send {N : NS} {n i : Nat} {S : Nat → Nat → List Int} (h : OR N n S i) {a b : Nat} (ha : a < n) (hb : b < n) (hi : i < 60) : OR (send1 N (mkM 1 a b ((i : Int) + 1))) n (sendS S a b i) (i + 1) := by
  have ht := h.there ha hb
  have hw := h.wt a b ha hb
  have hl : (N.wait a b).length = (S a b).length := by rw [hw, List.length_map]
  have hl2 := h.len a b
  unfold send1 sendS
  show OR (if thereB N a b = true ∧ N.cut a b = 0 ∧ (N.wait a b).length < 64 then { N with wait := updW N.wait a b (N.wait a b ++ [mkM 1 a b ((i : Int) + 1)]) } else N) n _ (i + 1)
  by_cases e : a = b
  · rw [if_neg (by rw [ht]; simp [e]), if_pos e]
    exact ⟨h.num, h.wt, h.cut, h.nd, fun x y t ht => by have := h.rng x y t ht; omega, fun x y => by have := h.len x y; omega⟩
  · rw [if_pos ⟨by rw [ht]; simpa using e, h.cut _ _, by omega⟩, if_neg e]
    refine ⟨h.num, fun x y hx hy => ?_, h.cut, fun x y => ?_, fun x y t hm => ?_, fun x y => ?_⟩
    · show updW N.wait a b (N.wait a b ++ [mkM 1 a b ((i : Int) + 1)]) x y = _
      unfold updW updS
      by_cases exy : x = a ∧ y = b
      · obtain ⟨rfl, rfl⟩ := exy
        rw [if_pos ⟨rfl, rfl⟩, if_pos ⟨rfl, rfl⟩, hw, List.map_append]
        rfl
      · rw [if_neg (by omega), if_neg exy]
        exact h.wt x y hx hy
    · unfold updS
      split
      · rw [List.nodup_append]
        refine ⟨h.nd a b, by simp, fun u hu v hv => ?_⟩
        rw [List.mem_singleton] at hv
        have := h.rng a b u hu
        omega
      · exact h.nd x y
    · unfold updS at hm
      split at hm
      · rcases List.mem_append.1 hm with e | e
        · have := h.rng a b t e; omega
        · rw [List.mem_singleton] at e; omega
      · have := h.rng x y t hm; omega
    · unfold updS
      split
      · rw [List.length_append, List.length_singleton]; omega
      · have := h.len x y; omega
theorem OR.none {N : NS} {n i : Nat} {S : Nat → Nat → List Int} (h : OR N n S i) {a b : Nat} (ha : a < n) (hb : b < n) (he : S a b = []) (k : Int) : twiceN N a b k = (msg0, false) ∧ dropN N a b k = N := by
  have hw := h.wt a b ha hb
  have e : atN N a b k = -1 := by
    unfold atN
    rw [if_pos (.inl (by rw [hw, he]; rfl))]
  unfold twiceN dropN
  rw [e]
  exact ⟨if_pos (by decide), if_pos (by decide)⟩
theorem erase_map {α β : Type} (f : α → β) (l : List α) (j : Nat) : (l.map f).eraseIdx j = (l.eraseIdx j).map f := by
  rw [List.eraseIdx_eq_take_drop_succ, List.eraseIdx_eq_take_drop_succ, List.map_append, List.map_take, List.map_drop]
theorem OR.some {N : NS} {n i : Nat} {S : Nat → Nat → List Int} (h : OR N n S i) {a b : Nat} (ha : a < n) (hb : b < n) (he : S a b ≠ []) (k : Int) :
    ∃ (j : Nat) (t : Int), (S a b)[j]? = some t ∧ twiceN N a b k = (mkM 1 a b t, true) ∧ OR (dropN N a b k) n (updS S a b ((S a b).eraseIdx j)) i := by
  have hw := h.wt a b ha hb
  have hl : (N.wait a b).length = (S a b).length := by rw [hw, List.length_map]
  have h0 : 0 < (S a b).length := List.length_pos_iff.2 he
  have e : atN N a b k = k % ((S a b).length : Int) := by
    unfold atN
    rw [if_neg (by rw [hl, h.cut]; omega), hl]
  have p1 := Int.emod_nonneg k (show ((S a b).length : Int) ≠ 0 by omega)
  have p2 := Int.emod_lt_of_pos k (show 0 < ((S a b).length : Int) by omega)
  obtain ⟨j, hj⟩ : ∃ j : Nat, k % ((S a b).length : Int) = j := ⟨(k % ((S a b).length : Int)).toNat, by omega⟩
  have hjl : j < (S a b).length := by omega
  refine ⟨j, (S a b)[j], List.getElem?_eq_getElem hjl, ?_, ?_⟩
  · unfold twiceN
    rw [e, hj, if_neg (by omega), Int.toNat_natCast, hw, List.getD_eq_getElem?_getD]
    simp [hjl]
  · unfold dropN
    rw [e, hj, if_neg (by omega), Int.toNat_natCast]
    refine ⟨h.num, fun x y hx hy => ?_, h.cut, fun x y => ?_, fun x y t hm => ?_, fun x y => ?_⟩
    · show updW N.wait a b ((N.wait a b).eraseIdx j) x y = _
      unfold updW updS
      by_cases exy : x = a ∧ y = b
      · obtain ⟨rfl, rfl⟩ := exy
        rw [if_pos ⟨rfl, rfl⟩, if_pos ⟨rfl, rfl⟩, hw, erase_map]
      · rw [if_neg (by omega), if_neg exy]
        exact h.wt x y hx hy
    · unfold updS
      split
      · exact (h.nd a b).sublist (List.eraseIdx_sublist _ _)
      · exact h.nd x y
    · unfold updS at hm
      split at hm
      · exact h.rng a b t ((List.eraseIdx_sublist _ _).subset hm)
      · exact h.rng x y t hm
    · unfold updS
      split
      · exact Nat.le_trans (List.length_eraseIdx_le _ _) (h.len a b)
      · exact h.len x y
/-- A list without twins: what stands at j stands nowhere ahead of it. -/
theorem first_at {l : List Int} (h : l.Nodup) {j j' : Nat} {t : Int} (h1 : l[j]? = some t) (h2 : l[j']? = some t) : j = j' := by
  obtain ⟨a1, e1⟩ := List.getElem?_eq_some_iff.1 h1
  obtain ⟨a2, e2⟩ := List.getElem?_eq_some_iff.1 h2
  have hp := List.pairwise_iff_getElem.1 h
  rcases Nat.lt_trichotomy j j' with e | e | e
  · exact absurd (e1.trans e2.symm) (hp j j' a1 a2 e)
  · exact e
  · exact absurd (e2.trans e1.symm) (hp j' j a2 a1 e)
theorem OR.links {N : NS} {n i : Nat} {S : Nat → Nat → List Int} (h : OR N n S i) (he : ∀ a b, a < n → b < n → S a b = []) : linksN N = [] := by
  have hr : ∀ a, a < n → ∀ j, j ≤ n → rowL N a j = [] := fun a ha j => by
    induction j with
    | zero => intro _; rfl
    | succ j ih =>
      intro hj
      rw [rowL_no N a j (by unfold okL; rw [h.wt a j ha (by omega), he a j ha (by omega)]; simp)]
      exact ih (by omega)
  have ht : ∀ j, j ≤ n → tabL N n j = [] := fun j => by
    induction j with
    | zero => intro _; rfl
    | succ j ih =>
      intro hj
      rw [tabL_succ, ih (by omega), hr j (by omega) n (Nat.le_refl _)]
      rfl
  unfold linksN
  rw [h.num, Int.toNat_natCast]
  exact ht n (Nat.le_refl _)
end Go.Proofs.Ythjabbheobpoeaa
