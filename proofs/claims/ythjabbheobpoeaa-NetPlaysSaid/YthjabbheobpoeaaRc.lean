/- The document's net, walked: New, Set, Clear. Written by gen_rc.py. -/
import Derived.Test.YthjabbheobpoeaaRb
set_option linter.unusedVariables false
set_option linter.unusedSimpArgs false
namespace Go.Proofs.Ythjabbheobpoeaa
open Go.RowKit B
/-- What a call leaves of the document's net. -/
def RLeftN (w w' : World) (M C : Nat → Prop) (g : Nat) (N : NS) : Prop := ∃ M' C', RNAt w' M' C' g N ∧ Ext M w w' ∧ (∀ k, M' k → M k ∨ w.heap.size ≤ k) ∧ (∀ k, C' k → C k ∨ w.heap.size ≤ k)
theorem RLeftN.same {w w' : World} {M C : Nat → Prop} {g : Nat} {N : NS} (h : RNAt w' M C g N) (hx : Ext M w w') : RLeftN w w' M C g N := ⟨M, C, h, hx, fun _ h => .inl h, fun _ h => .inl h⟩
theorem wf_new (n : Int) : NS.wf ⟨n, fun _ _ => [], fun _ _ => 0⟩ := ⟨fun _ _ _ => ⟨rfl, rfl⟩, fun _ _ => Int.le_refl _⟩
def netZ (n : Int) : Array Value := (Value.int .i64 n :: (List.replicate 49 (Value.slice none 0 0) ++ List.replicate 49 (Value.bool false))).toArray
theorem netZ_at (n : Int) : (netZ n).size = 99 ∧ (netZ n)[0]? = some (.int .i64 n) ∧ ∀ a b : Nat, a < 7 → b < 7 → (netZ n)[1 + a * 7 + b]? = some (.slice none 0 0) ∧ (netZ n)[50 + a * 7 + b]? = some (.bool false) := by
  refine ⟨by simp [netZ], by simp [netZ], fun a b ha hb => ⟨?_, ?_⟩⟩
  · unfold netZ
    rw [List.getElem?_toArray, show 1 + a * 7 + b = (a * 7 + b) + 1 by omega, List.getElem?_cons_succ, List.getElem?_append_left (by rw [List.length_replicate]; omega), List.getElem?_replicate, if_pos (by omega)]
  · unfold netZ
    rw [List.getElem?_toArray, show 50 + a * 7 + b = (49 + a * 7 + b) + 1 by omega, List.getElem?_cons_succ, List.getElem?_append_right (by rw [List.length_replicate]; omega), List.getElem?_replicate, if_pos (by rw [List.length_replicate]; omega)]
theorem netZ_build (n : Int) : Try.prog.built 69 [(0, .int .i64 n)] = some (netZ n) := by kernel_rfl
theorem wpList_bld {P : Program} {ops : Array Oper} {rest : List Oper} {o : Oper} {a : Act} {w : World} {Q : Exit → Act → World → Prop} (hgd : o.guard = none) (ty : TypeId) (parts : Array (Nat × Operand)) (ho : o.op = .build ty parts) (ps : Array (Nat × Value)) (hps : (parts.map fun (i, x) => (i, a.eval x)) = ps) (cells : Array Value) (hb : P.built ty ps.toList = some cells)
    (h : wpList P ops Q rest (a.put o.dst (.agg cells)) w) : wpList P ops Q (o :: rest) a w :=
  wpList_plain hgd fun K hK => by
    unfold Oper.wp execOp
    simp only [ho]
    rw [hps]
    simp [run_build (P := P) w ty ps cells hb]
    exact hK _ _ h
theorem RNAt.made {w W : World} {g : Nat} {n : Int} (h0 : 2 ≤ n) (h1 : n ≤ 7) (hb : Blk W g (netZ n) 69) (hg : w.heap.size ≤ g) : RNAt W (fun k => k = g) None_ g ⟨n, fun _ _ => [], fun _ _ => 0⟩ := by
  obtain ⟨z1, z2, z3⟩ := netZ_at n
  refine ⟨⟨netZ n, hb, z1, z2, fun a b ha hb => ⟨⟨_, (z3 a b ha hb).1, QAt.nil _ _ _, fun k hk => by simp [Value.ownBlock] at hk⟩, by rw [(z3 a b ha hb).2]; simp⟩, fun a b a' b' ha hb ha' hb' _ v v' k e1 e2 e3 => ?_⟩, rfl, fun k h => h.elim, fun k h => h.elim, fun k h => by have h : k = g := h; rw [h]; exact hb.lt, ⟨h0, h1⟩, fun _ _ => by simp, wf_new n⟩
  rw [(z3 a b ha hb).1] at e1
  cases e1
  simp [Value.ownBlock] at e3
set_option maxRecDepth 100000 in
set_option maxHeartbeats 4000000 in
theorem rnewN_ok (n : Int) (w : World) (h0 : 2 ≤ n) (h1 : n ≤ 7) : Calls Try.prog 18 #[.int .i64 n] w fun e w' => ∃ g, e = .returned (.tuple #[.pointer (some ⟨g, 0, none⟩), .int .i64 0]) ∧ RNAt w' (fun k => k = g) None_ g ⟨n, fun _ _ => [], fun _ _ => 0⟩ ∧ w.heap.size ≤ g ∧ Ext None_ w w' := by
  have hbd := netZ_build n
  obtain ⟨ZZ, hZZ⟩ : ∃ x, x = netZ n := ⟨_, rfl⟩
  rw [← hZZ] at hbd
  have HZ := Lib.hid hZZ
  clear hZZ
  go_enter Try.func18, Try.ntmps18
  go_wp2_with (refine wpList_bld rfl 69 #[(0, .tmp 10)] rfl #[(0, .int .i64 n)] (by simp only [List.map_toArray, List.map_cons, List.map_nil]; rfl) ZZ hbd ?_)
  go_ret2
  rw [HZ.out]
  exact ⟨_, rfl, RNAt.made h0 h1 (Blk.new w _ _) (Nat.le_refl _), Nat.le_refl _, x0 w _⟩
theorem rnewN_bad (n : Int) (w : World) (h : n < 2 ∨ 7 < n) : Calls Try.prog 18 #[.int .i64 n] w fun e w' => e = .returned (.tuple #[.pointer none, .int .i64 1]) ∧ w = w' := by
  by_cases h0 : n < 2
  · go_enter Try.func18, Try.ntmps18
    go_wp2
    go_ret2
    exact ⟨rfl, rfl⟩
  · have h1 : 7 < n := by omega
    clear h
    go_enter Try.func18, Try.ntmps18
    go_wp2
    go_ret2
    exact ⟨rfl, rfl⟩
/-- A cut is written. -/
theorem RNAt.setCut {w : World} {M C : Nat → Prop} {g : Nat} {N N' : NS} (h : RNAt w M C g N) {a b : Nat} (ha : a < 7) (hb : b < 7) (v : Int) (hn : N'.n = N.n) (hw : N'.wait = N.wait) (hc : ∀ x y : Nat, x < 7 → y < 7 → N'.cut x y = if x = a ∧ y = b then v else N.cut x y) (hwf : N'.wf) : RNAt (w.setCell ⟨g, 50 + a * 7 + b, none⟩ (.bool (decide (v ≠ 0)))) M C g N' ∧ Ext M w (w.setCell ⟨g, 50 + a * 7 + b, none⟩ (.bool (decide (v ≠ 0)))) ∧ w.frozen? ⟨g, 50 + a * 7 + b, none⟩ = false := by
  have hml := h.mlt
  have hcl := h.clt
  obtain ⟨⟨cs, k1, k2, k3, k4, k5⟩, k6, a1, a2, a3, a4, a5, a6⟩ := h
  have he : Ext (fun k => k = g) w (w.setCell ⟨g, 50 + a * 7 + b, none⟩ (.bool (decide (v ≠ 0)))) := (Ext.refl (fun k => k = g) w).setCell (p := ⟨g, 50 + a * 7 + b, none⟩) (Or.inl rfl) _
  refine ⟨⟨⟨_, k1.set (50 + a * 7 + b) _, by simp [k2], by rw [Array.getElem?_setIfInBounds_ne (by omega), hn]; exact k3, fun x y hx hy => ?_, fun x y x' y' hx hy hx' hy' hne u u' k e1 e2 => ?_⟩, k6, a1, fun k hk => Nat.lt_of_lt_of_le (a2 k hk) he.size, fun k hk => Nat.lt_of_lt_of_le (a3 k hk) he.size, hn ▸ a4, hw ▸ a5, hwf⟩, he.mono (fun k _ e => by have e : k = g := e; rw [e]; exact k6), k1.frozen _⟩
  · obtain ⟨⟨u, q1, q2, q3⟩, q4⟩ := k4 x y hx hy
    refine ⟨⟨u, by rw [Array.getElem?_setIfInBounds_ne (by omega)]; exact q1, hw ▸ q2.ext he (fun k hk e => q3 k hk e) (fun k hk e => a1 k hk (by have e : k = g := e; rw [e]; exact k6)), q3⟩, ?_⟩
    rw [hc x y hx hy]
    by_cases e : x = a ∧ y = b
    · obtain ⟨rfl, rfl⟩ := e
      rw [if_pos ⟨rfl, rfl⟩, Array.getElem?_setIfInBounds_self_of_lt (by omega)]
    · rw [if_neg e, Array.getElem?_setIfInBounds_ne (by omega)]
      exact q4
  · rw [Array.getElem?_setIfInBounds_ne (by omega)] at e1 e2
    exact k5 x y x' y' hx hy hx' hy' hne u u' k e1 e2
theorem wf_turn {N : NS} (h : N.wf) (a b v : Int) (hv : 0 ≤ v) : (turnN N a b v).wf := by
  unfold turnN
  split
  · next ht =>
    refine ⟨fun x y hxy => ⟨(h.1 x y hxy).1, ?_⟩, fun x y => ?_⟩
    · show updI (updI N.cut a b v) b a v x y = 0
      have hxy' : thereB N x y = false := hxy
      unfold updI
      by_cases e1 : x = b ∧ y = a
      · obtain ⟨rfl, rfl⟩ := e1
        unfold thereB at ht hxy'
        simp only [decide_eq_true_eq, decide_eq_false_iff_not] at ht hxy'
        exact absurd ⟨ht.2.1, ht.1, ht.2.2.2.1, ht.2.2.1, fun e => ht.2.2.2.2 e.symm⟩ hxy'
      · rw [if_neg e1]
        by_cases e2 : x = a ∧ y = b
        · obtain ⟨rfl, rfl⟩ := e2
          rw [ht] at hxy'
          cases hxy'
        · rw [if_neg e2]
          exact (h.1 x y hxy).2
    · show 0 ≤ updI (updI N.cut a b v) b a v x y
      unfold updI
      split
      · exact hv
      · split
        · exact hv
        · exact h.2 x y
  · exact h
set_option maxRecDepth 100000 in
set_option maxHeartbeats 4000000 in
theorem rset_any (g : Nat) (N : NS) (M C : Nat → Prop) (a b v : Int) (hv : 0 ≤ v) (w : World) (h : RNAt w M C g N) : Calls Try.prog 32 #[.pointer (some ⟨g, 0, none⟩), .int .i64 a, .int .i64 b, .bool (decide (v ≠ 0))] w fun e w' => e = .returned (.tuple #[]) ∧ RNAt w' M C g (turnN N a b v) ∧ Ext M w w' := by
  have HL := Lib.hid (rlink_any g N M C a b w h)
  cases ht : thereB N a b with
  | false =>
    have HH := Lib.hid h
    have HT : Hid (turnN N a b v = N) := Lib.hid (by unfold turnN; rw [ht]; rfl)
    rw [ht] at HL
    clear h ht
    go_enter Try.func32, Try.ntmps32
    go_wp2_with fail
    refine HL.out.mono ?_
    rintro e w1 ⟨rfl, rfl⟩
    go_wp2_with fail
    go_end0
    rw [HT.out]
    exact ⟨rfl, HH.out, Ext.refl _ _⟩
  | true =>
    have hab : a ≠ b := by unfold thereB at ht; simp only [decide_eq_true_eq] at ht; exact ht.2.2.2.2
    have hwt := wf_turn h.wf a b v hv
    have HT : Hid (turnN N a b v = { N with cut := updI (updI N.cut a b v) b a v }) := Lib.hid (by unfold turnN; rw [ht]; rfl)
    rw [HT.out] at hwt
    rw [ht] at HL
    obtain ⟨x, y, rfl, rfl, hx, hy⟩ := there_nat h.nn.2 ht
    obtain ⟨A, c, _, c2, _⟩ := h.asks hx hy
    obtain ⟨A', c', _, c2', _⟩ := h.asks hy hx
    have hxy : x ≠ y := fun e => hab (by rw [e])
    have h1 : RNAt (w.setCell ⟨g, 50 + x * 7 + y, none⟩ (.bool (decide (v ≠ 0)))) M C g { N with cut := updI N.cut x y v } ∧ Ext M w (w.setCell ⟨g, 50 + x * 7 + y, none⟩ (.bool (decide (v ≠ 0)))) ∧ w.frozen? ⟨g, 50 + x * 7 + y, none⟩ = false := h.setCut hx hy v rfl rfl (fun p q _ _ => by
      show updI N.cut x y v p q = _
      unfold updI
      by_cases e : p = x ∧ q = y
      · rw [if_pos e, if_pos (by omega)]
      · rw [if_neg e, if_neg (by omega)]) ⟨fun p q hpq => ⟨(h.wf.1 p q hpq).1, by
        show updI N.cut x y v p q = 0
        unfold updI
        by_cases e : p = x ∧ q = y
        · obtain ⟨rfl, rfl⟩ := e
          have : thereB N x y = false := hpq
          rw [ht] at this
          cases this
        · rw [if_neg e]
          exact (h.wf.1 p q hpq).2⟩, fun p q => by
        show 0 ≤ updI N.cut x y v p q
        unfold updI
        split
        · exact hv
        · exact h.wf.2 p q⟩
    have h2 := h1.1.setCut hy hx v (N' := { N with cut := updI (updI N.cut x y v) y x v }) rfl rfl (fun p q _ _ => by
      show updI (updI N.cut x y v) y x v p q = if p = y ∧ q = x then v else updI N.cut x y v p q
      conv => lhs; unfold updI
      by_cases e : p = y ∧ q = x
      · rw [if_pos e, if_pos (by omega)]
      · rw [if_neg e, if_neg (by omega)]
        rfl) hwt
    have HF := Lib.hid (And.intro h2.1 (h1.2.1.trans h2.2.1 (fun _ _ h => h)))
    have f1 := h1.2.2
    have f2 : w.frozen? ⟨g, 50 + y * 7 + x, none⟩ = false := by obtain ⟨cs, k1, _⟩ := h.lay; exact k1.frozen _
    obtain ⟨vb, hvb⟩ : ∃ vb : Bool, vb = decide (v ≠ 0) := ⟨_, rfl⟩
    rw [← hvb] at HF ⊢
    clear h h1 h2 hwt ht hab hvb
    go_enter Try.func32, Try.ntmps32
    go_wp2_with fail
    refine HL.out.mono ?_
    rintro e w1 ⟨rfl, rfl⟩
    go_wp2_with fail
    go_end0
    rw [HT.out]
    exact ⟨rfl, HF.out⟩
end Go.Proofs.Ythjabbheobpoeaa
