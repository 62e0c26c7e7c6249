/- Package net: the net in memory. -/
import Derived.Test.YthjabbheobpoeaaNa
set_option linter.unusedVariables false
set_option linter.unusedSimpArgs false
namespace Go.Proofs.Ythjabbheobpoeaa
open Go.RowKit B
structure NS where
  n : Int
  wait : Int → Int → List Msg
  cut : Int → Int → Int
def msgsV (l : List Msg) (pv : List (Option Addr × Nat)) : List Value := (l.zip pv).flatMap fun x => (msgC x.1 x.2.1 x.2.2).toList
theorem msgC_len (q : Msg) (A : Option Addr) (c : Nat) : (msgC q A c).toList.length = 10 := rfl
theorem msgsV_length : ∀ (l : List Msg) (pv : List (Option Addr × Nat)), pv.length = l.length → (msgsV l pv).length = l.length * 10
  | [], _, _ => by simp [msgsV]
  | q :: r, [], h => by simp at h
  | q :: r, p :: s, h => by
    have ih := msgsV_length r s (by simpa using h)
    simp only [msgsV, List.zip_cons_cons, List.flatMap_cons, List.length_append, List.length_cons] at ih ⊢
    rw [ih]
    simp only [List.length_nil]
    omega
theorem msgsV_append (l m : List Msg) (p r : List (Option Addr × Nat)) (h : p.length = l.length) : msgsV (l ++ m) (p ++ r) = msgsV l p ++ msgsV m r := by
  unfold msgsV
  rw [List.zip_append h.symm, List.flatMap_append]
theorem msgC_one (q : Msg) (A : Option Addr) (c : Nat) : ∀ u ∈ (msgC q A c).toList, u.oneCell' = true := fun u hu => by
  simp at hu
  rcases hu with rfl | rfl | rfl | rfl | rfl | rfl | rfl | rfl | rfl | rfl <;> rfl
theorem msgsV_one (l : List Msg) (pv : List (Option Addr × Nat)) : ∀ u ∈ msgsV l pv, u.oneCell' = true := fun u hu => by
  obtain ⟨x, _, hx⟩ := List.mem_flatMap.1 hu
  exact msgC_one _ _ _ u hx
theorem flat_ten {α : Type} (f : α → List Value) (hf : ∀ x, (f x).length = 10) : ∀ (l : List α) (i j : Nat) (x : α), l[i]? = some x → j < 10 → (l.flatMap f)[i * 10 + j]? = (f x)[j]?
  | [], i, j, x, h, _ => by simp at h
  | y :: r, 0, j, x, h, hj => by
    simp at h
    subst h
    rw [List.flatMap_cons, List.getElem?_append_left (by rw [hf]; omega)]
    simp
  | y :: r, i + 1, j, x, h, hj => by
    rw [List.flatMap_cons, List.getElem?_append_right (by rw [hf]; omega), hf, show (i + 1) * 10 + j - 10 = i * 10 + j by omega]
    exact flat_ten f hf r i j x (by simpa using h) hj
/-- Messages in a row of the net's own. -/
def QAt (w : World) (C M : Nat → Prop) (v : Value) (l : List Msg) : Prop :=
  ∃ pv : List (Option Addr × Nat), pv.length = l.length ∧ Own w 28 10 M v l.length (msgsV l pv) ∧
    ∀ (i : Nat) (q : Msg) (p : Option Addr × Nat), l[i]? = some q → pv[i]? = some p → q.es.length ≤ 5864062014805 ∧ Row w p.1 (entV q.es) ∧ ∀ ad, p.1 = some ad → 0 < q.es.length → C ad.block
theorem rowE {S : Nat → Prop} {w W : World} {A : Option Addr} {es : List (Int × ByteArray)} (hp : Row w A (entV es)) (hx : Ext S w W) (hpM : ∀ ad, A = some ad → 0 < es.length → ¬ S ad.block) : Row W A (entV es) := by
  by_cases h : 0 < es.length
  · exact hp.ext hx (fun ad e => hpM ad e h)
  · rw [List.eq_nil_of_length_eq_zero (by omega : es.length = 0)]
    exact Row.nil _ _
section
variable {S C C1 M M1 : Nat → Prop} {w w1 : World} {v : Value} {l : List Msg}
theorem QAt.nil (w : World) (C M : Nat → Prop) : QAt w C M (.slice none 0 0) [] := ⟨[], rfl, Own.nil _ _ _ _, fun i q p h => by simp at h⟩
theorem QAt.ext (h : QAt w C M v l) (hx : Ext S w w1) (h1 : ∀ k, v.ownBlock = some k → ¬ S k) (h2 : ∀ k, C k → ¬ S k) : QAt w1 C M v l := by
  obtain ⟨pv, k1, k2, k3⟩ := h
  refine ⟨pv, k1, k2.ext hx h1, fun i q p hq hp => ?_⟩
  obtain ⟨a1, a2, a3⟩ := k3 i q p hq hp
  exact ⟨a1, rowE a2 hx (fun ad e hl => h2 _ (a3 ad e hl)), a3⟩
theorem QAt.ext0 (h : QAt w C M v l) (hx : Ext None_ w w1) : QAt w1 C M v l := h.ext hx (fun _ _ a => a) (fun _ _ a => a)
theorem QAt.mono (h : QAt w C M v l) (hM : ∀ k, M k → M1 k) (hC : ∀ k, C k → C1 k) : QAt w C1 M1 v l := by
  obtain ⟨pv, k1, k2, k3⟩ := h
  exact ⟨pv, k1, k2.mono (fun k _ => hM k), fun i q p hq hp => by
    obtain ⟨a1, a2, a3⟩ := k3 i q p hq hp
    exact ⟨a1, a2, fun ad e hl => hC _ (a3 ad e hl)⟩⟩
theorem QAt.sl (h : QAt w C M v l) : ∃ A c, v = .slice A l.length c ∧ l.length ≤ c := by
  obtain ⟨pv, k1, k2, k3⟩ := h
  obtain ⟨A, c, h1, h2, _⟩ := k2.slice
  exact ⟨A, c, h1, h2⟩
theorem QAt.lt (h : QAt w C M v l) : ∀ k, v.ownBlock = some k → k < w.heap.size := by
  obtain ⟨pv, k1, k2, k3⟩ := h
  exact k2.lt
theorem QAt.blk (h : QAt w C M v l) : ∀ k, v.ownBlock = some k → M k := by
  obtain ⟨pv, k1, k2, k3⟩ := h
  exact k2.blk
end
abbrev wz : Value := .slice none 0 0
structure NetAt (w : World) (M C : Nat → Prop) (g : Nat) (N : NS) (m : Nat) : Prop where
  lay : ∃ (bw bc : Nat) (V : Int → Int → Value),
    Blk w g #[.int .i64 N.n, .map (some bw), .map (some bc)] 59 ∧
    MapF w wz bw m V ∧ MapF w (.int .i64 0) bc m (fun a b => .int .i64 (N.cut a b)) ∧
    (M g ∧ M bw ∧ M bc) ∧ (g ≠ bw ∧ g ≠ bc ∧ bw ≠ bc) ∧
    (∀ a b, I64 a → I64 b → QAt w C M (V a b) (N.wait a b)) ∧
    (∀ a b, I64 a → I64 b → ∀ k, (V a b).ownBlock = some k → (k ≠ g ∧ k ≠ bw ∧ k ≠ bc) ∧ ∀ a' b', I64 a' → I64 b' → ¬ (a' = a ∧ b' = b) → ¬ (V a' b').ownBlock = some k)
  apart : ∀ k, C k → ¬ M k
  clt : ∀ k, C k → k < w.heap.size
  mlt : ∀ k, M k → k < w.heap.size
  nn : 2 ≤ N.n ∧ N.n ≤ 7
  len : ∀ a b, (N.wait a b).length ≤ 64
theorem NetAt.ext {S M C : Nat → Prop} {w w1 : World} {g : Nat} {N : NS} {m : Nat} (h : NetAt w M C g N m) (hx : Ext S w w1) (h1 : ∀ k, M k → ¬ S k) (h2 : ∀ k, C k → ¬ S k) : NetAt w1 M C g N m := by
  obtain ⟨⟨bw, bc, V, k1, k2, k3, ⟨m1, m2, m3⟩, k5, k6, k7⟩, a1, a2, a3, a4, a5⟩ := h
  exact ⟨⟨bw, bc, V, k1.ext hx (h1 g m1), k2.ext hx (h1 _ m2), k3.ext hx (h1 _ m3), ⟨m1, m2, m3⟩, k5, fun a b ha hb => (k6 a b ha hb).ext hx (fun k e => h1 k ((k6 a b ha hb).blk k e)) h2, k7⟩, a1, fun k hk => Nat.lt_of_lt_of_le (a2 k hk) hx.size, fun k hk => Nat.lt_of_lt_of_le (a3 k hk) hx.size, a4, a5⟩
theorem NetAt.ext0 {M C : Nat → Prop} {w w1 : World} {g : Nat} {N : NS} {m : Nat} (h : NetAt w M C g N m) (hx : Ext None_ w w1) : NetAt w1 M C g N m := h.ext hx (fun _ _ a => a) (fun _ _ a => a)
/-- What a call on a net leaves. -/
def Left (w w' : World) (M C : Nat → Prop) (g : Nat) (N : NS) (m : Nat) : Prop := ∃ M' C', NetAt w' M' C' g N m ∧ Ext M w w' ∧ (∀ k, M' k → M k ∨ w.heap.size ≤ k) ∧ (∀ k, C' k → C k ∨ w.heap.size ≤ k)
theorem Left.same {w w' : World} {M C : Nat → Prop} {g : Nat} {N : NS} {m : Nat} (h : NetAt w' M C g N m) (hx : Ext M w w') : Left w w' M C g N m := ⟨M, C, h, hx, fun _ h => .inl h, fun _ h => .inl h⟩
theorem zW (w : World) : (zeroValue 45).run Try.prog w = .ok wz w := by kernel_rfl
theorem zI (w : World) : (zeroValue 3).run Try.prog w = .ok (.int .i64 0) w := by kernel_rfl
theorem uW : Try.prog.underlying 56 = some (.map 38 45) := by kernel_rfl
theorem uC : Try.prog.underlying 57 = some (.map 38 3) := by kernel_rfl
def thereB (N : NS) (a b : Int) : Bool := decide (0 ≤ a ∧ 0 ≤ b ∧ a < N.n ∧ b < N.n ∧ a ≠ b)
set_option maxRecDepth 100000 in
set_option maxHeartbeats 4000000 in
theorem there_any (g : Nat) (N : NS) (M C : Nat → Prop) (m : Nat) (a b : Int) (w : World) (h : NetAt w M C g N m) : Calls Try.prog 22 #[.pointer (some ⟨g, 0, none⟩), .int .i64 a, .int .i64 b] w fun e w' => e = .returned (.bool (thereB N a b)) ∧ w = w' := by
  obtain ⟨bw, bc, V, hb, _⟩ := h.lay
  have c0 := Blk.cell hb 0
  clear h hb
  by_cases h1 : 0 ≤ a
  · by_cases h2 : 0 ≤ b
    · by_cases h3 : a < N.n
      · by_cases h4 : b < N.n
        · by_cases h5 : a = b
          · have HT : Hid (thereB N a b = false) := Lib.hid (by simp [thereB, h5])
            have hb1 : (a != b) = false := by simp [h5]
            clear h5
            go_enter Try.func22, Try.ntmps22
            go_wp2_with fail
            go_ret
            exact ⟨by rw [HT.out]; rfl, rfl⟩
          · have HT : Hid (thereB N a b = true) := Lib.hid (by simp [thereB, h1, h2, h3, h4, h5])
            have hb1 : (a != b) = true := by simp [h5]
            clear h5
            go_enter Try.func22, Try.ntmps22
            go_wp2_with fail
            go_ret
            exact ⟨by rw [HT.out]; rfl, rfl⟩
        · have HT : Hid (thereB N a b = false) := Lib.hid (by simp [thereB, h4])
          go_enter Try.func22, Try.ntmps22
          go_wp2_with fail
          go_ret
          exact ⟨by rw [HT.out]; rfl, rfl⟩
      · have HT : Hid (thereB N a b = false) := Lib.hid (by simp [thereB, h3])
        go_enter Try.func22, Try.ntmps22
        go_wp2_with fail
        go_ret
        exact ⟨by rw [HT.out]; rfl, rfl⟩
    · have HT : Hid (thereB N a b = false) := Lib.hid (by simp [thereB, h2])
      go_enter Try.func22, Try.ntmps22
      go_wp2_with fail
      go_ret
      exact ⟨by rw [HT.out]; rfl, rfl⟩
  · have HT : Hid (thereB N a b = false) := Lib.hid (by simp [thereB, h1])
    go_enter Try.func22, Try.ntmps22
    go_wp2_with fail
    go_ret
    exact ⟨by rw [HT.out]; rfl, rfl⟩
/-- What a link's row and cut are, for a walk. -/
theorem NetAt.asks {g : Nat} {N : NS} {M C : Nat → Prop} {m : Nat} {w : World} (h : NetAt w M C g N m) (a b : Int) (ha : I64 a) (hb : I64 b) : ∃ (bw bc : Nat) (A : Option Addr) (c : Nat), w.cell? ⟨g, 0, none⟩ = some (.int .i64 N.n) ∧ w.cell? ⟨g, 1, none⟩ = some (.map (some bw)) ∧ w.cell? ⟨g, 2, none⟩ = some (.map (some bc)) ∧
    (Instr.lookup 56 (.map (some bw)) (.agg #[.int .i64 a, .int .i64 b]) false).run Try.prog w = .ok (.slice A (N.wait a b).length c) w ∧
    (Instr.lookup 57 (.map (some bc)) (.agg #[.int .i64 a, .int .i64 b]) false).run Try.prog w = .ok (.int .i64 (N.cut a b)) w ∧ QAt w C M (.slice A (N.wait a b).length c) (N.wait a b) := by
  obtain ⟨bw, bc, V, k1, k2, k3, _, _, k6, _⟩ := h.lay
  have hq := k6 a b ha hb
  obtain ⟨A, c, hv, hc⟩ := hq.sl
  rw [hv] at hq
  exact ⟨bw, bc, A, c, Blk.cell k1 0, Blk.cell k1 1, Blk.cell k1 2, hv ▸ k2.look uW (zW w) ha hb, k3.look uC (zI w) ha hb, hq⟩
set_option maxRecDepth 100000 in
set_option maxHeartbeats 4000000 in
theorem Waiting_any (g : Nat) (N : NS) (M C : Nat → Prop) (m : Nat) (a b : Int) (ha : I64 a) (hb : I64 b) (w : World) (h : NetAt w M C g N m) : Calls Try.prog 9 #[.pointer (some ⟨g, 0, none⟩), .int .i64 a, .int .i64 b] w fun e w' => e = .returned (.int .i64 (N.wait a b).length) ∧ w = w' := by
  obtain ⟨bw, bc, A, c, c0, c1, c2, l1, l2, _⟩ := h.asks a b ha hb
  clear h
  go_enter Try.func9, Try.ntmps9
  go_wp2_with fail
  go_ret
  exact ⟨rfl, rfl⟩
end Go.Proofs.Ythjabbheobpoeaa
