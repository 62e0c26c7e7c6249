/- Both nets side by side; draylaw26.same, walked. -/
import Derived.Test.YthjabbheobpoeaaOpenM
set_option linter.unusedVariables false
set_option linter.unusedSimpArgs false
namespace Go.Proofs.Ythjabbheobpoeaa
open Go.RowKit B
/-- Both nets in memory, apart from each other and from the kept blocks K. -/
def TNx (K : Nat → Prop) (g h : Nat) (N N' : NS) (m : Nat) (w : World) (M C M' C' : Nat → Prop) : Prop := NetAt w M C g N m ∧ RNAt w M' C' h N' ∧ (∀ k, (M k ∨ C k) → ¬ (M' k ∨ C' k)) ∧ (∀ k, K k → ¬ (M k ∨ C k) ∧ ¬ (M' k ∨ C' k)) ∧ ∀ k, K k → k < w.heap.size
def TN (K : Nat → Prop) (g h : Nat) (N N' : NS) (m : Nat) (w : World) : Prop := ∃ M C M' C', TNx K g h N N' m w M C M' C'
section
variable {K M C M' C' : Nat → Prop} {g h : Nat} {N N' : NS} {m : Nat} {w : World}
theorem TNx.left (t : TNx K g h N N' m w M C M' C') {w1 : World} {N1 : NS} {m1 : Nat} (h1 : Left w w1 M C g N1 m1) : ∃ M1 C1, TNx K g h N1 N' m1 w1 M1 C1 M' C' ∧ Ext (fun k => ¬ K k) w w1 := by
  obtain ⟨a1, a2, a3, a4, a5⟩ := t
  obtain ⟨M1, C1, b1, b2, b3, b4⟩ := h1
  have hs := b2.size
  refine ⟨M1, C1, ⟨b1, a2.ext b2 (fun k hk e => a3 k (.inl e) (.inl hk)) (fun k hk e => a3 k (.inl e) (.inr hk)), fun k hk hk2 => ?_, fun k hk => ⟨fun hk2 => ?_, (a4 k hk).2⟩, fun k hk => Nat.lt_of_lt_of_le (a5 k hk) hs⟩, b2.mono (fun k _ e hK => (a4 k hK).1 (.inl e))⟩
  · have hlt : k < w.heap.size := hk2.elim (a2.mlt k) (a2.clt k)
    rcases hk with hk | hk
    · rcases b3 k hk with e | e
      · exact a3 k (.inl e) hk2
      · omega
    · rcases b4 k hk with e | e
      · exact a3 k (.inr e) hk2
      · omega
  · have hlt := a5 k hk
    rcases hk2 with hk2 | hk2
    · rcases b3 k hk2 with e | e
      · exact (a4 k hk).1 (.inl e)
      · omega
    · rcases b4 k hk2 with e | e
      · exact (a4 k hk).1 (.inr e)
      · omega
theorem TNx.right (t : TNx K g h N N' m w M C M' C') {w1 : World} {N1 : NS} (h1 : RLeftN w w1 M' C' h N1) : ∃ M1 C1, TNx K g h N N1 m w1 M C M1 C1 ∧ Ext (fun k => ¬ K k) w w1 := by
  obtain ⟨a1, a2, a3, a4, a5⟩ := t
  obtain ⟨M1, C1, b1, b2, b3, b4⟩ := h1
  have hs := b2.size
  refine ⟨M1, C1, ⟨a1.ext b2 (fun k hk e => a3 k (.inl hk) (.inl e)) (fun k hk e => a3 k (.inr hk) (.inl e)), b1, fun k hk2 hk => ?_, fun k hk => ⟨(a4 k hk).1, fun hk2 => ?_⟩, fun k hk => Nat.lt_of_lt_of_le (a5 k hk) hs⟩, b2.mono (fun k _ e hK => (a4 k hK).2 (.inl e))⟩
  · have hlt : k < w.heap.size := hk2.elim (a1.mlt k) (a1.clt k)
    rcases hk with hk | hk
    · rcases b3 k hk with e | e
      · exact a3 k hk2 (.inl e)
      · omega
    · rcases b4 k hk with e | e
      · exact a3 k hk2 (.inr e)
      · omega
  · have hlt := a5 k hk
    rcases hk2 with hk2 | hk2
    · rcases b3 k hk2 with e | e
      · exact (a4 k hk).2 (.inl e)
      · omega
    · rcases b4 k hk2 with e | e
      · exact (a4 k hk).2 (.inr e)
      · omega
/-- A kept block is written. -/
theorem TNx.write {w1 : World} (t : TNx K g h N N' m w M C M' C') (hx : Ext K w w1) : TNx K g h N N' m w1 M C M' C' := by
  obtain ⟨a1, a2, a3, a4, a5⟩ := t
  exact ⟨a1.ext hx (fun k hk e => (a4 k e).1 (.inl hk)) (fun k hk e => (a4 k e).1 (.inr hk)), a2.ext hx (fun k hk e => (a4 k e).2 (.inl hk)) (fun k hk e => (a4 k e).2 (.inr hk)), a3, a4, fun k hk => Nat.lt_of_lt_of_le (a5 k hk) hx.size⟩
theorem TNx.ext0 {w1 : World} (t : TNx K g h N N' m w M C M' C') (hx : Ext None_ w w1) : TNx K g h N N' m w1 M C M' C' := t.write (hx.mono (fun _ _ e => e.elim))
/-- More blocks are kept. -/
theorem TNx.add {w1 : World} {K1 : Nat → Prop} (t : TNx K g h N N' m w M C M' C') (hx : Ext K w w1) (hK : ∀ k, K1 k → K k ∨ (w.heap.size ≤ k ∧ k < w1.heap.size)) : TNx K1 g h N N' m w1 M C M' C' := by
  obtain ⟨a1, a2, a3, a4, a5⟩ := t
  refine ⟨a1.ext hx (fun k hk e => (a4 k e).1 (.inl hk)) (fun k hk e => (a4 k e).1 (.inr hk)), a2.ext hx (fun k hk e => (a4 k e).2 (.inl hk)) (fun k hk e => (a4 k e).2 (.inr hk)), a3, fun k hk => ?_, fun k hk => ?_⟩
  · rcases hK k hk with e | e
    · exact a4 k e
    · exact ⟨fun h => by
        have : k < w.heap.size := h.elim (a1.mlt k) (a1.clt k)
        omega, fun h => by
        have : k < w.heap.size := h.elim (a2.mlt k) (a2.clt k)
        omega⟩
  · rcases hK k hk with e | e
    · exact Nat.lt_of_lt_of_le (a5 k e) hx.size
    · exact e.2
theorem TNx.less {K1 : Nat → Prop} (t : TNx K g h N N' m w M C M' C') (hK : ∀ k, K1 k → K k) : TNx K1 g h N N' m w M C M' C' := by
  obtain ⟨a1, a2, a3, a4, a5⟩ := t
  exact ⟨a1, a2, a3, fun k hk => a4 k (hK k hk), fun k hk => a5 k (hK k hk)⟩
theorem TNx.mono {m1 : Nat} (t : TNx K g h N N' m w M C M' C') (hm : m ≤ m1) : ∃ M1 C1, TNx K g h N N' m1 w M1 C1 M' C' := by
  obtain ⟨M1, C1, a3, _⟩ := t.left ((Left.refl t.1).mono hm)
  exact ⟨M1, C1, a3⟩
end
theorem linksN_len (N : NS) (hn : N.n ≤ 7) : (linksN N).length ≤ 1000 ∧ ∀ q ∈ linksN N, I64 q.1 ∧ I64 q.2 := by
  obtain ⟨n, hn2⟩ : ∃ n, n = N.n.toNat := ⟨_, rfl⟩
  have h7 : n ≤ 7 := by omega
  have hr : ∀ a j : Nat, (rowL N a j).length ≤ j ∧ ∀ q ∈ rowL N a j, q.1 = a ∧ 0 ≤ q.2 ∧ q.2 < j := fun a j => by
    unfold rowL
    refine ⟨by rw [List.length_map]; exact Nat.le_trans (List.length_filter_le _ _) (by simp), fun q hq => ?_⟩
    obtain ⟨b, hb, rfl⟩ := List.mem_map.1 hq
    have := List.mem_range.1 (List.mem_filter.1 hb).1
    exact ⟨rfl, by simp, by simp; omega⟩
  have ht : ∀ i : Nat, ∀ q ∈ tabL N n i, 0 ≤ q.1 ∧ q.1 < i ∧ 0 ≤ q.2 ∧ q.2 < n := fun i q hq => by
    unfold tabL at hq
    obtain ⟨a, ha, hq⟩ := List.mem_flatMap.1 hq
    have h1 := (hr a n).2 q hq
    have h2 := List.mem_range.1 ha
    omega
  have h := ht n
  unfold linksN
  rw [← hn2]
  refine ⟨Nat.le_trans (tabL_len N n n) (Nat.le_trans (Nat.mul_le_mul h7 h7) (by decide)), fun q hq => ?_⟩
  have := h q hq
  unfold I64
  omega
set_option maxRecDepth 100000 in
set_option maxHeartbeats 8000000 in
theorem same_any {K : Nat → Prop} {g h : Nat} {N : NS} {m : Nat} (a b : Int) (ha : I64 a) (hb : I64 b) (w : World) (t : TN K g h N N m w) : Calls Try.prog 20 #[.pointer (some ⟨g, 0, none⟩), .pointer (some ⟨h, 0, none⟩), .int .i64 a, .int .i64 b] w fun e w' => e = .returned (.bool true) ∧ Ext None_ w w' := by
  obtain ⟨M, C, M', C', a1, a2, _⟩ := t
  have HW := Lib.hid (Waiting_any g N M C m a b ha hb w a1)
  have HV := Lib.hid (rwaitN_any h N M' C' a b w a2)
  have HL := Lib.hid (Links_any g N M C m w a1)
  have HK := Lib.hid (fun (W : World) (hx : Ext None_ w W) => rlinks_any h N M' C' W (a2.ext0 hx))
  have HLN := Lib.hid (linksN_len N a1.nn.2)
  obtain ⟨L, hL⟩ : ∃ L, L = (N.wait a b).length := ⟨_, rfl⟩
  rw [← hL] at HW HV
  obtain ⟨ll, hll⟩ : ∃ ll, ll = linksN N := ⟨_, rfl⟩
  rw [← hll] at HL HK HLN
  clear a1 a2 hL hll
  go_enter Try.func20, Try.ntmps20
  go_wp2_with (first
    | (go_at_call 9; refine HW.out.mono ?_; rintro e w1 ⟨rfl, rfl⟩; clear HW)
    | (go_at_call 21; refine HV.out.mono ?_; rintro e w1 ⟨rfl, rfl⟩; clear HV)
    | (go_at_call 14; refine HL.out.mono ?_; rintro e w1 ⟨A1, c1, rfl, ho1, hx1⟩; have HO1 := Lib.hid ho1; have HX1 := Lib.hid hx1; clear ho1 hx1 HL)
    | (go_at_call 36; refine (HK.out w1 HX1.out).mono ?_; rintro e w2 ⟨A2, c2, rfl, ho2, hx2⟩; have HO2 := Lib.hid ho2; have HX2 := Lib.hid hx2; clear ho2 hx2 HK)
    | (go_at_call 35; refine (SameL_any ll HLN.out.2 A1 A2 c1 c2 w2 (by obtain ⟨A', c', he, _, _, hr⟩ := Own.slice (Own.ext0 HO1.out HX2.out); injection he with he _ _; subst he; exact hr) (by obtain ⟨A', c', he, _, _, hr⟩ := Own.slice HO2.out; injection he with he _ _; subst he; exact hr) HLN.out.1).mono ?_; rintro e w3 ⟨rfl, hx3⟩; have HX3 := Lib.hid hx3; clear hx3))
  go_ret
  exact ⟨rfl, (HX1.out.trans0 HX2.out).trans0 HX3.out⟩
end Go.Proofs.Ythjabbheobpoeaa
