/- Package net: a net beside blocks that are kept. -/
import Derived.Test.YthjabbheobpoeaaNj
set_option linter.unusedVariables false
set_option linter.unusedSimpArgs false
namespace Go.Proofs.Ythjabbheobpoeaa
open Go.RowKit B
/-- A net made behind w, which touches none of the blocks ps. -/
def LN (w : World) (ps : List Nat) (g : Nat) (N : NS) (m : Nat) (W : World) : Prop := ∃ M C, NetAt W M C g N m ∧ Ext None_ w W ∧ (∀ k, M k → w.heap.size ≤ k) ∧ (∀ k, C k → w.heap.size ≤ k) ∧ ∀ k ∈ ps, k < W.heap.size ∧ ¬ M k ∧ ¬ C k
theorem LN.ext0 {w W W' : World} {ps : List Nat} {g m : Nat} {N : NS} (h : LN w ps g N m W) (hx : Ext None_ W W') : LN w ps g N m W' := by
  obtain ⟨M, C, h1, h2, h3, h4, h5⟩ := h
  exact ⟨M, C, h1.ext0 hx, h2.trans0 hx, h3, h4, fun k hk => ⟨Nat.lt_of_lt_of_le (h5 k hk).1 hx.size, (h5 k hk).2⟩⟩
theorem LN.add {w W W' : World} {ps : List Nat} {g m : Nat} {N : NS} (h : LN w ps g N m W) (hx : Ext None_ W W') {b : Nat} (hb : W.heap.size ≤ b) (hb2 : b < W'.heap.size) : LN w (b :: ps) g N m W' := by
  obtain ⟨M, C, h1, h2, h3, h4, h5⟩ := h
  refine ⟨M, C, h1.ext0 hx, h2.trans0 hx, h3, h4, fun k hk => ?_⟩
  rcases List.mem_cons.1 hk with rfl | hk
  · exact ⟨hb2, fun e => by have := h1.mlt _ e; omega, fun e => by have := h1.clt _ e; omega⟩
  · exact ⟨Nat.lt_of_lt_of_le (h5 k hk).1 hx.size, (h5 k hk).2⟩
theorem LN.less {w W : World} {ps qs : List Nat} {g m : Nat} {N : NS} (h : LN w ps g N m W) (hq : ∀ k ∈ qs, k ∈ ps) : LN w qs g N m W := by
  obtain ⟨M, C, h1, h2, h3, h4, h5⟩ := h
  exact ⟨M, C, h1, h2, h3, h4, fun k hk => h5 k (hq k hk)⟩
theorem LN.mono {w W : World} {ps : List Nat} {g m m' : Nat} {N : NS} (h : LN w ps g N m W) (hm : m ≤ m') : LN w ps g N m' W := by
  obtain ⟨M, C, h1, h2⟩ := h
  obtain ⟨bw, bc, V, k1, k2, k3, rest⟩ := h1.lay
  exact ⟨M, C, ⟨⟨bw, bc, V, k1, k2.mono hm, k3.mono hm, rest⟩, h1.apart, h1.clt, h1.mlt, h1.nn, h1.len⟩, h2⟩
/-- A kept block is written. -/
theorem LN.write {w W W' : World} {ps : List Nat} {g m : Nat} {N : NS} (h : LN w ps g N m W) {b : Nat} (hb : b ∈ ps) (hw : w.heap.size ≤ b) (hx : Ext (fun k => k = b) W W') : LN w ps g N m W' := by
  obtain ⟨M, C, h1, h2, h3, h4, h5⟩ := h
  refine ⟨M, C, h1.ext hx (fun k hk e => (h5 b hb).2.1 (by have e : k = b := e; rw [← e]; exact hk)) (fun k hk e => (h5 b hb).2.2 (by have e : k = b := e; rw [← e]; exact hk)), h2.trans hx (fun k hk e => by have e : k = b := e; omega), h3, h4, fun k hk => ⟨Nat.lt_of_lt_of_le (h5 k hk).1 hx.size, (h5 k hk).2⟩⟩
/-- A step of the net. -/
theorem LN.step {w W : World} {ps : List Nat} {g m : Nat} {N : NS} (h : LN w ps g N m W) : ∃ M C, NetAt W M C g N m ∧ (∀ k ∈ ps, ¬ M k) ∧ (∀ k, M k → w.heap.size ≤ k) ∧ ∀ N' m' W', Left W W' M C g N' m' → LN w ps g N' m' W' ∧ Ext (fun k => k ∉ ps) W W' := by
  obtain ⟨M, C, h1, h2, h3, h4, h5⟩ := h
  refine ⟨M, C, h1, fun k hk => (h5 k hk).2.1, h3, fun N' m' W' hl => ?_⟩
  obtain ⟨M2, C2, a1, a2, a3, a4⟩ := hl
  have hs := h2.size
  refine ⟨⟨M2, C2, a1, h2.trans a2 (fun k hk e => by have := h3 k e; omega), fun k hk => ?_, fun k hk => ?_, fun k hk => ⟨Nat.lt_of_lt_of_le (h5 k hk).1 a2.size, fun e => ?_, fun e => ?_⟩⟩, a2.mono (fun k _ e hk => (h5 k hk).2.1 e)⟩
  · rcases a3 k hk with e | e
    · exact h3 k e
    · omega
  · rcases a4 k hk with e | e
    · exact h4 k e
    · omega
  · rcases a3 k e with e | e
    · exact (h5 k hk).2.1 e
    · have := (h5 k hk).1; omega
  · rcases a4 k e with e | e
    · exact (h5 k hk).2.2 e
    · have := (h5 k hk).1; omega
theorem ln_new (n : Int) (w : World) (h0 : 2 ≤ n) (h1 : n ≤ 7) : Calls Try.prog 7 #[.int .i64 n] w fun e w' => ∃ g, e = .returned (.tuple #[.pointer (some ⟨g, 0, none⟩), .int .i64 0]) ∧ LN w [] g ⟨n, fun _ _ => [], fun _ _ => 0⟩ 0 w' :=
  (New_ok n w h0 h1).mono fun e w' ⟨g, M, h1, h2, h3, h4⟩ => ⟨g, h1, M, fun _ => False, h2, h4, h3, fun k h => h.elim, fun k h => absurd h (by simp)⟩
/-- What a step leaves. -/
def StepP (w : World) (ps : List Nat) (g : Nat) (N : NS) (m : Nat) (W W' : World) : Prop := LN w ps g N m W' ∧ Ext (fun k => k ∉ ps) W W'
section
variable {w W : World} {ps : List Nat} {g m : Nat} {N : NS}
theorem ln_waiting (h : LN w ps g N m W) (a b : Int) (ha : I64 a) (hb : I64 b) : Calls Try.prog 9 #[.pointer (some ⟨g, 0, none⟩), .int .i64 a, .int .i64 b] W fun e w' => e = .returned (.int .i64 (N.wait a b).length) ∧ W = w' := by
  obtain ⟨M, C, h1, _⟩ := h
  exact Waiting_any g N M C m a b ha hb W h1
theorem ln_twice (h : LN w ps g N m W) (a b k : Int) (ha : I64 a) (hb : I64 b) (hk : I64 k) : Calls Try.prog 10 #[.pointer (some ⟨g, 0, none⟩), .int .i64 a, .int .i64 b, .int .i64 k] W fun e w' => (∃ A c, e = .returned (.tuple #[.agg (msgC (twiceN N a b k).1 A c), .bool (twiceN N a b k).2])) ∧ Ext None_ W w' := by
  obtain ⟨M, C, h1, _⟩ := h
  exact (Twice_any g N M C m a b k ha hb hk W h1).mono fun e w' ⟨⟨A, c, h1, _⟩, h2⟩ => ⟨⟨A, c, h1⟩, h2⟩
theorem ln_deliver (h : LN w ps g N m W) (hm : m + 1 < maxLen) (a b k : Int) (ha : I64 a) (hb : I64 b) (hk : I64 k) : Calls Try.prog 11 #[.pointer (some ⟨g, 0, none⟩), .int .i64 a, .int .i64 b, .int .i64 k] W fun e w' => (∃ A c, e = .returned (.tuple #[.agg (msgC (twiceN N a b k).1 A c), .bool (twiceN N a b k).2])) ∧ StepP w ps g (dropN N a b k) (m + 1) W w' := by
  obtain ⟨M, C, h1, _, _, h4⟩ := h.step
  exact (Deliver_any g N M C m hm a b k ha hb hk W h1).mono fun e w' ⟨⟨A, c, h1, _⟩, h2⟩ => ⟨⟨A, c, h1⟩, h4 _ _ _ h2⟩
theorem ln_drop (h : LN w ps g N m W) (hm : m + 1 < maxLen) (a b k : Int) (ha : I64 a) (hb : I64 b) (hk : I64 k) : Calls Try.prog 16 #[.pointer (some ⟨g, 0, none⟩), .int .i64 a, .int .i64 b, .int .i64 k] W fun e w' => e = .returned (.bool (!decide (atN N a b k < 0))) ∧ StepP w ps g (dropN N a b k) (m + 1) W w' := by
  obtain ⟨M, C, h1, _, _, h4⟩ := h.step
  exact (Drop_any g N M C m hm a b k ha hb hk W h1).mono fun e w' ⟨h1, h2⟩ => ⟨h1, h4 _ _ _ h2⟩
theorem ln_cut (h : LN w ps g N m W) (hm : m + 2 < maxLen) (a b : Int) (ha : I64 a) (hb : I64 b) : Calls Try.prog 13 #[.pointer (some ⟨g, 0, none⟩), .int .i64 a, .int .i64 b] W fun e w' => e = .returned (.tuple #[]) ∧ StepP w ps g (turnN N a b 1) (m + 2) W w' := by
  obtain ⟨M, C, h1, _, _, h4⟩ := h.step
  exact (Cut_any g N M C m hm a b ha hb W h1).mono fun e w' ⟨h1, h2, h3⟩ => ⟨h1, h4 _ _ _ (Left.same h2 h3)⟩
theorem ln_mend (h : LN w ps g N m W) (hm : m + 2 < maxLen) (a b : Int) (ha : I64 a) (hb : I64 b) : Calls Try.prog 15 #[.pointer (some ⟨g, 0, none⟩), .int .i64 a, .int .i64 b] W fun e w' => e = .returned (.tuple #[]) ∧ StepP w ps g (turnN N a b 0) (m + 2) W w' := by
  obtain ⟨M, C, h1, _, _, h4⟩ := h.step
  exact (Mend_any g N M C m hm a b ha hb W h1).mono fun e w' ⟨h1, h2, h3⟩ => ⟨h1, h4 _ _ _ (Left.same h2 h3)⟩
theorem ln_links (h : LN w ps g N m W) : Calls Try.prog 14 #[.pointer (some ⟨g, 0, none⟩)] W fun e w' => ∃ A c, e = .returned (.slice A (linksN N).length c) ∧ LinkO W w' (.slice A (linksN N).length c) (linksN N) ∧ Ext None_ W w' := by
  obtain ⟨M, C, h1, _⟩ := h
  exact Links_any g N M C m W h1
theorem ln_send (h : LN w ps g N m W) (gs c : Nat) (l : List Msg) (pv : List (Option Addr × Nat)) (hm : m + l.length + 1 < maxLen) (hll : l.length ≤ 1353245080301) (hr : Row W (some ⟨gs, 0, none⟩) (msgsV l pv)) (hp : pv.length = l.length) (hgs : gs ∈ ps)
    (he : ∀ (i : Nat) (q : Msg) (p : Option Addr × Nat), l[i]? = some q → pv[i]? = some p → I64 q.f ∧ I64 q.t ∧ q.es.length ≤ 5864062014805 ∧ Row W p.1 (entV q.es) ∧ ∀ ad, p.1 = some ad → 0 < q.es.length → ad.block ∈ ps) : Calls Try.prog 8 #[.pointer (some ⟨g, 0, none⟩), .slice (some ⟨gs, 0, none⟩) l.length c] W fun e w' => e = .returned (.tuple #[]) ∧ StepP w ps g (sendN N l) (m + l.length) W w' := by
  obtain ⟨M, C, h1, h2, _, h4⟩ := h.step
  refine (Send_any g N M C m gs c l pv hm hll W h1 ⟨hr, hp, fun i q p hq hp => ?_, h2 gs hgs⟩).mono fun e w' ⟨h1, h2⟩ => ⟨h1, h4 _ _ _ h2⟩
  obtain ⟨a1, a2, a3, a4, a5⟩ := he i q p hq hp
  exact ⟨a1, a2, a3, a4, fun ad e hl => h2 _ (a5 ad e hl)⟩
end
/-- A message without entries. -/
def mk (k f t tm : Int) : Msg := ⟨k, f, t, tm, 0, 0, 0, false, [], ByteArray.empty⟩
theorem ln_sendk {w W : World} {ps : List Nat} {g m : Nat} {N : NS} (h : LN w ps g N m W) (gs c : Nat) (l : List Msg) (hm : m + l.length + 1 < maxLen) (hll : l.length ≤ 1353245080301) (hr : Row W (some ⟨gs, 0, none⟩) (l.flatMap fun q => (msgC q none 0).toList)) (hgs : gs ∈ ps) (hl : ∀ q ∈ l, I64 q.f ∧ I64 q.t ∧ q.es = []) : Calls Try.prog 8 #[.pointer (some ⟨g, 0, none⟩), .slice (some ⟨gs, 0, none⟩) l.length c] W fun e w' => e = .returned (.tuple #[]) ∧ StepP w ps g (sendN N l) (m + l.length) W w' := by
  have e : ∀ l : List Msg, msgsV l (List.replicate l.length (none, 0)) = l.flatMap fun q => (msgC q none 0).toList := fun l => by
    induction l with
    | nil => rfl
    | cons x r ih =>
      show (msgC x none 0).toList ++ msgsV r (List.replicate r.length (none, 0)) = _
      rw [ih]
      rfl
  refine ln_send h gs c l (List.replicate l.length (none, 0)) hm hll (by rw [e]; exact hr) (by simp) hgs (fun i q p hq hp => ?_)
  have hp1 : p = (none, 0) := by
    have := List.mem_of_getElem? hp
    exact List.eq_of_mem_replicate this
  obtain ⟨b1, b2, b3⟩ := hl q (List.mem_of_getElem? hq)
  subst hp1
  rw [b3]
  exact ⟨b1, b2, by simp, fun i v hv => by simp [entV] at hv, fun ad e => by cases e⟩
end Go.Proofs.Ythjabbheobpoeaa
