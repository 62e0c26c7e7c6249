/- The document's net (chapter 26): what it is in memory; link, Waiting, number, Twice. -/
import Derived.Test.YthjabbheobpoeaaNl
import Derived.Great.BuildSlice
set_option linter.unusedVariables false
set_option linter.unusedSimpArgs false
namespace Go.Proofs.Ythjabbheobpoeaa
open Go.RowKit B
/-- Nothing stands on links that are none. -/
def NS.wf (N : NS) : Prop := (∀ a b : Int, thereB N a b = false → N.wait a b = [] ∧ N.cut a b = 0) ∧ ∀ a b : Int, 0 ≤ N.cut a b
/-- The document's net at block g: M its own blocks, C the entries' blocks. -/
structure RNAt (w : World) (M C : Nat → Prop) (g : Nat) (N : NS) : Prop where
  lay : ∃ cs : Array Value, Blk w g cs 69 ∧ cs.size = 99 ∧ cs[0]? = some (.int .i64 N.n) ∧
    (∀ a b : Nat, a < 7 → b < 7 → (∃ v, cs[1 + a * 7 + b]? = some v ∧ QAt w C M v (N.wait a b) ∧ ∀ k, v.ownBlock = some k → k ≠ g) ∧ cs[50 + a * 7 + b]? = some (.bool (decide (N.cut a b ≠ 0)))) ∧
    (∀ a b a' b' : Nat, a < 7 → b < 7 → a' < 7 → b' < 7 → ¬ (a = a' ∧ b = b') → ∀ v v' k, cs[1 + a * 7 + b]? = some v → cs[1 + a' * 7 + b']? = some v' → v.ownBlock = some k → ¬ v'.ownBlock = some k)
  mg : M g
  apart : ∀ k, C k → ¬ M k
  clt : ∀ k, C k → k < w.heap.size
  mlt : ∀ k, M k → k < w.heap.size
  nn : 2 ≤ N.n ∧ N.n ≤ 7
  len : ∀ a b, (N.wait a b).length ≤ 64
  wf : N.wf
theorem RNAt.ext {S M C : Nat → Prop} {w w1 : World} {g : Nat} {N : NS} (h : RNAt w M C g N) (hx : Ext S w w1) (h1 : ∀ k, M k → ¬ S k) (h2 : ∀ k, C k → ¬ S k) : RNAt w1 M C g N := by
  obtain ⟨⟨cs, k1, k2, k3, k4, k5⟩, k6, a1, a2, a3, a4, a5, a6⟩ := h
  refine ⟨⟨cs, k1.ext hx (h1 g k6), k2, k3, fun a b ha hb => ?_, k5⟩, k6, a1, fun k hk => Nat.lt_of_lt_of_le (a2 k hk) hx.size, fun k hk => Nat.lt_of_lt_of_le (a3 k hk) hx.size, a4, a5, a6⟩
  obtain ⟨⟨v, q1, q2, q3⟩, q4⟩ := k4 a b ha hb
  exact ⟨⟨v, q1, q2.ext hx (fun k e => h1 k (q2.blk k e)) h2, q3⟩, q4⟩
theorem RNAt.ext0 {M C : Nat → Prop} {w w1 : World} {g : Nat} {N : NS} (h : RNAt w M C g N) (hx : Ext None_ w w1) : RNAt w1 M C g N := h.ext hx (fun _ _ a => a) (fun _ _ a => a)
/-- What a link's row and cut are, for a walk. -/
theorem RNAt.asks {g : Nat} {N : NS} {M C : Nat → Prop} {w : World} (h : RNAt w M C g N) {a b : Nat} (ha : a < 7) (hb : b < 7) : ∃ (A : Option Addr) (c : Nat), w.cell? ⟨g, 1 + a * 7 + b, none⟩ = some (.slice A (N.wait a b).length c) ∧ w.cell? ⟨g, 50 + a * 7 + b, none⟩ = some (.bool (decide (N.cut a b ≠ 0))) ∧ QAt w C M (.slice A (N.wait a b).length c) (N.wait a b) := by
  obtain ⟨cs, k1, k2, k3, k4, k5⟩ := h.lay
  obtain ⟨⟨v, q1, q2, q3⟩, q4⟩ := k4 a b ha hb
  obtain ⟨A, c, rfl, _⟩ := q2.sl
  exact ⟨A, c, by rw [k1.cell]; exact q1, by rw [k1.cell]; exact q4, q2⟩
theorem RNAt.num {g : Nat} {N : NS} {M C : Nat → Prop} {w : World} (h : RNAt w M C g N) : w.cell? ⟨g, 0, none⟩ = some (.int .i64 N.n) := by
  obtain ⟨cs, k1, k2, k3, k4, k5⟩ := h.lay
  rw [k1.cell]; exact k3
theorem there_nat {N : NS} (hn : N.n ≤ 7) {a b : Int} (h : thereB N a b = true) : ∃ x y : Nat, a = x ∧ b = y ∧ x < 7 ∧ y < 7 := by
  unfold thereB at h
  simp only [decide_eq_true_eq] at h
  exact ⟨a.toNat, b.toNat, by omega, by omega, by omega, by omega⟩
set_option maxRecDepth 100000 in
set_option maxHeartbeats 4000000 in
theorem rlink_any (g : Nat) (N : NS) (M C : Nat → Prop) (a b : Int) (w : World) (h : RNAt w M C g N) : Calls Try.prog 37 #[.pointer (some ⟨g, 0, none⟩), .int .i64 a, .int .i64 b] w fun e w' => e = .returned (.bool (thereB N a b)) ∧ w = w' := by
  have c0 := h.num
  clear h
  by_cases h1 : 0 ≤ a
  · by_cases h3 : a < N.n
    · by_cases h2 : 0 ≤ b
      · by_cases h4 : b < N.n
        · by_cases h5 : a = b
          · have HT : Hid (thereB N a b = false) := Lib.hid (by simp [thereB, h5])
            have hb1 : (a != b) = false := by simp [h5]
            clear h5
            go_enter Try.func37, Try.ntmps37
            go_wp2_with fail
            go_ret
            exact ⟨by rw [HT.out]; rfl, rfl⟩
          · have HT : Hid (thereB N a b = true) := Lib.hid (by simp [thereB, h1, h2, h3, h4, h5])
            have hb1 : (a != b) = true := by simp [h5]
            clear h5
            go_enter Try.func37, Try.ntmps37
            go_wp2_with fail
            go_ret
            exact ⟨by rw [HT.out]; rfl, rfl⟩
        · have HT : Hid (thereB N a b = false) := Lib.hid (by simp [thereB, h4])
          go_enter Try.func37, Try.ntmps37
          go_wp2_with fail
          go_ret
          exact ⟨by rw [HT.out]; rfl, rfl⟩
      · have HT : Hid (thereB N a b = false) := Lib.hid (by simp [thereB, h2])
        go_enter Try.func37, Try.ntmps37
        go_wp2_with fail
        go_ret
        exact ⟨by rw [HT.out]; rfl, rfl⟩
    · have HT : Hid (thereB N a b = false) := Lib.hid (by simp [thereB, h3])
      go_enter Try.func37, Try.ntmps37
      go_wp2_with fail
      go_ret
      exact ⟨by rw [HT.out]; rfl, rfl⟩
  · have HT : Hid (thereB N a b = false) := Lib.hid (by simp [thereB, h1])
    go_enter Try.func37, Try.ntmps37
    go_wp2_with fail
    go_ret
    exact ⟨by rw [HT.out]; rfl, rfl⟩
set_option maxRecDepth 100000 in
set_option maxHeartbeats 4000000 in
theorem rwaitN_any (g : Nat) (N : NS) (M C : Nat → Prop) (a b : Int) (w : World) (h : RNAt w M C g N) : Calls Try.prog 21 #[.pointer (some ⟨g, 0, none⟩), .int .i64 a, .int .i64 b] w fun e w' => e = .returned (.int .i64 (N.wait a b).length) ∧ w = w' := by
  have HL := Lib.hid (rlink_any g N M C a b w h)
  cases ht : thereB N a b with
  | false =>
    have hw := (h.wf.1 a b ht).1
    rw [ht] at HL
    rw [hw]
    clear h ht hw
    go_enter Try.func21, Try.ntmps21
    go_wp2_with fail
    refine HL.out.mono ?_
    rintro e w1 ⟨rfl, rfl⟩
    go_wp2_with fail
    go_ret
    exact ⟨rfl, rfl⟩
  | true =>
    rw [ht] at HL
    obtain ⟨x, y, rfl, rfl, hx, hy⟩ := there_nat h.nn.2 ht
    obtain ⟨A, c, c1, c2, _⟩ := h.asks hx hy
    obtain ⟨L, hL⟩ : ∃ L, L = (N.wait x y).length := ⟨_, rfl⟩
    rw [← hL] at c1 ⊢
    clear h ht hL c2
    go_enter Try.func21, Try.ntmps21
    go_wp2_with fail
    refine HL.out.mono ?_
    rintro e w1 ⟨rfl, rfl⟩
    go_wp2_with fail
    go_ret
    exact ⟨rfl, rfl⟩
end Go.Proofs.Ythjabbheobpoeaa
