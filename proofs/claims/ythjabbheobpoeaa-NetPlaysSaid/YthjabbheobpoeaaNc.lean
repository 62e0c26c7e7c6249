/- Package net, walked: New, at, turn, Cut, Mend. -/
import Derived.Test.YthjabbheobpoeaaNb
import Derived.Carry
set_option linter.unusedVariables false
set_option linter.unusedSimpArgs false
namespace Go.Proofs.Ythjabbheobpoeaa
open Go.RowKit B
theorem wpList_put {w : World} {ops : Array Oper} {rest : List Oper} {o : Oper} {a : Act} {Q : Exit → Act → World → Prop} (hgd : o.guard = none) (mm x v : Operand) (t : TypeId) (hop : o.op = .mapUpdate t mm x v) {e : TypeId} (ht : Try.prog.underlying t = some (.map 38 e))
    {z : Value} {b n : Nat} {V : Int → Int → Value} (h : MapF w z b n V) (hn : n < maxLen) (hm : a.eval mm = .map (some b)) (a1 c1 : Int) (ha : I64 a1) (hc : I64 c1) (hx : a.eval x = .agg #[.int .i64 a1, .int .i64 c1]) (val : Value) (hv : a.eval v = val)
    (hK : ∀ w', MapF w' z b (n + 1) (upd V a1 c1 val) → Ext (fun k => k = b) w w' → wpList Try.prog ops Q rest (a.put o.dst undef) w') : wpList Try.prog ops Q (o :: rest) a w := by
  refine wpList_plain hgd fun K' hK' => ?_
  obtain ⟨w', hrun, r1, r2⟩ := h.put hn ht ha hc val
  unfold Oper.wp
  simp [execOp, hop, hm, hx, hv, hrun, Result.andThen]
  exact hK' _ _ (hK w' r1 r2)
theorem New_ok (n : Int) (w : World) (h0 : 2 ≤ n) (h1 : n ≤ 7) : Calls Try.prog 7 #[.int .i64 n] w fun e w' => ∃ g M, e = .returned (.tuple #[.pointer (some ⟨g, 0, none⟩), .int .i64 0]) ∧ NetAt w' M (fun _ => False) g ⟨n, fun _ _ => [], fun _ _ => 0⟩ 0 ∧ (∀ k, M k → w.heap.size ≤ k) ∧ Ext None_ w w' := by
  have hmm := @run_makeMap Try.prog
  go_enter Try.func7, Try.ntmps7
  go_wp2_with fail
  go_ret2
  have s1 := size_alloc w (.map #[] 0)
  have s2 := size_alloc (w.alloc (.map #[] 0)) (.map #[] 0)
  refine ⟨w.heap.size + 2, fun k => w.heap.size ≤ k ∧ k < w.heap.size + 3, by first | rfl | simp, ?_, fun k hk => hk.1, ((x0 w _).trans0 (x0 _ _)).trans0 (x0 _ _)⟩
  have m1 := (MapF.made w wz).ext0 (x0 _ (.map #[] 0))
  have m2 := MapF.made (w.alloc (.map #[] 0)) (.int .i64 0)
  have hb := Blk.new ((w.alloc (.map #[] 0)).alloc (.map #[] 0)) #[.int .i64 n, .map (some w.heap.size), .map (some (w.heap.size + 1))] 59
  rw [s2, s1] at hb
  rw [s1] at m2
  refine ⟨⟨w.heap.size, w.heap.size + 1, fun _ _ => wz, hb, m1.ext0 (x0 _ _), m2.ext0 (x0 _ _), ⟨by omega, by omega, by omega⟩, ⟨by omega, by omega, by omega⟩, fun a b _ _ => QAt.nil _ _ _, fun a b _ _ k hk => by simp [Value.ownBlock] at hk⟩, fun k h => h.elim, fun k h => h.elim, fun k hk => ?_, ⟨h0, h1⟩, fun _ _ => by simp⟩
  rw [size_alloc, size_alloc, size_alloc]
  omega
theorem New_bad (n : Int) (w : World) (h : n < 2 ∨ 7 < n) : Calls Try.prog 7 #[.int .i64 n] w fun e w' => e = .returned (.tuple #[.pointer none, .int .i64 1]) ∧ w = w' := by
  by_cases h1 : n < 2
  · clear h
    go_enter Try.func7, Try.ntmps7
    go_wp2_with fail
    go_ret2
    exact ⟨rfl, rfl⟩
  · have h2 : 7 < n := by omega
    clear h
    go_enter Try.func7, Try.ntmps7
    go_wp2_with fail
    go_ret2
    exact ⟨rfl, rfl⟩
theorem tmod_cases (n d : Int) (hd : 0 < d) : -d < n.tmod d ∧ n.tmod d < d ∧ n % d = if n.tmod d < 0 then n.tmod d + d else n.tmod d := by
  have h1 := Int.tmod_lt_of_pos n hd
  have h2 : -d < n.tmod d := by
    have := Int.lt_tmod_of_pos n hd
    exact this
  refine ⟨h2, h1, ?_⟩
  have he : n % d = (n.tmod d) % d := by
    rw [← Int.emod_emod_of_dvd n (Int.dvd_refl d)]
    have := Int.mul_tdiv_add_tmod n d
    conv => lhs; rw [← this]
    simp
  rw [he]
  split
  · rw [← Int.add_emod_right, Int.emod_eq_of_lt (by omega) (by omega)]
  · rw [Int.emod_eq_of_lt (by omega) h1]
theorem at_mod (k n : Int) (hn : 0 < n) : (k.tmod n + n) % n = k % n := by
  obtain ⟨h1, h2, h3⟩ := tmod_cases k n hn
  rw [h3]
  split
  · exact Int.emod_eq_of_lt (by omega) (by omega)
  · rw [Int.add_emod_right]; exact Int.emod_eq_of_lt (by omega) h2
def atN (N : NS) (a b k : Int) : Int := if (N.wait a b).length = 0 ∨ 0 < N.cut a b then -1 else k % ((N.wait a b).length : Int)
set_option maxRecDepth 100000 in
set_option maxHeartbeats 4000000 in
theorem at_any (g : Nat) (N : NS) (M C : Nat → Prop) (m : Nat) (a b k : Int) (ha : I64 a) (hb : I64 b) (hk : I64 k) (w : World) (h : NetAt w M C g N m) : Calls Try.prog 24 #[.pointer (some ⟨g, 0, none⟩), .int .i64 a, .int .i64 b, .int .i64 k] w fun e w' => e = .returned (.int .i64 (atN N a b k)) ∧ w = w' := by
  obtain ⟨bw, bc, A, c, c0, c1, c2, l1, l2, _⟩ := h.asks a b ha hb
  have hlen := h.len a b
  obtain ⟨hk1, hk2⟩ := hk
  clear h
  obtain ⟨n, hn⟩ : ∃ n, n = (N.wait a b).length := ⟨_, rfl⟩
  rw [← hn] at l1 hlen
  by_cases h0 : n = 0
  · have HA : Hid (atN N a b k = -1) := Lib.hid (by unfold atN; rw [if_pos (.inl (by omega))])
    subst h0
    clear hn
    go_enter Try.func24, Try.ntmps24
    go_wp2_with fail
    go_ret
    exact ⟨by rw [HA.out]; rfl, rfl⟩
  · have hb1 : ((n : Int) == 0) = false := by simp [h0]
    by_cases hc : 0 < N.cut a b
    · have HA : Hid (atN N a b k = -1) := Lib.hid (by unfold atN; rw [if_pos (.inr hc)])
      clear hn
      go_enter Try.func24, Try.ntmps24
      go_wp2_with fail
      go_ret
      exact ⟨by rw [HA.out]; rfl, rfl⟩
    · have HA : Hid (atN N a b k = k % (n : Int)) := Lib.hid (by unfold atN; rw [if_neg (by omega), ← hn])
      obtain ⟨t1, t2, t3⟩ := tmod_cases k n (by omega)
      have HM := Lib.hid (show k.tmod n % n = k % (n : Int) by have h := at_mod k n (by omega); rwa [Int.add_emod_right] at h)
      have hpos : 0 < k.tmod n + n := by omega
      clear hn t3
      go_enter Try.func24, Try.ntmps24
      go_wp2_with fail
      go_ret
      refine ⟨?_, rfl⟩
      rw [HA.out, ← HM.out]
      rfl
def updI (f : Int → Int → Int) (a b v : Int) : Int → Int → Int := fun x y => if x = a ∧ y = b then v else f x y
theorem upd_int (f : Int → Int → Int) (a b v : Int) : upd (fun x y => .int .i64 (f x y)) a b (.int .i64 v) = fun x y => .int .i64 (updI f a b v x y) := by
  funext x y
  unfold upd updI
  split <;> rfl
def turnN (N : NS) (a b v : Int) : NS := if thereB N a b = true then { N with cut := updI (updI N.cut a b v) b a v } else N
set_option maxRecDepth 100000 in
set_option maxHeartbeats 4000000 in
theorem turn_any (g : Nat) (N : NS) (M C : Nat → Prop) (m : Nat) (hm : m + 2 < maxLen) (a b v : Int) (ha : I64 a) (hb : I64 b) (w : World) (h : NetAt w M C g N m) : Calls Try.prog 27 #[.pointer (some ⟨g, 0, none⟩), .int .i64 a, .int .i64 b, .int .i64 v] w fun e w' => e = .returned (.tuple #[]) ∧ NetAt w' M C g (turnN N a b v) (m + 2) ∧ Ext M w w' := by
  have HT := Lib.hid (there_any g N M C m a b w h)
  cases hth : thereB N a b with
  | false =>
    have HN : Hid (NetAt w M C g (turnN N a b v) (m + 2)) := Lib.hid (by
      unfold turnN
      rw [hth, if_neg (by decide)]
      obtain ⟨⟨bw, bc, V, k1, k2, k3, rest⟩, r2, r3, r4, r5, r6⟩ := h
      exact ⟨⟨bw, bc, V, k1, k2.mono (by omega), k3.mono (by omega), rest⟩, r2, r3, r4, r5, r6⟩)
    rw [hth] at HT
    clear h hth
    go_enter Try.func27, Try.ntmps27
    go_wp2_with (go_at_call 22; refine HT.out.mono ?_; rintro e w1 ⟨rfl, rfl⟩; clear HT)
    go_end0
    exact ⟨rfl, HN.out, Ext.refl _ _⟩
  | true =>
    rw [hth] at HT
    obtain ⟨bw, bc, V, k1, k2, k3, k4, ⟨n1, n2, n3⟩, k6, k7⟩ := h.lay
    have HH := Lib.hid h
    have HK := Lib.hid (show Blk w g #[.int .i64 N.n, .map (some bw), .map (some bc)] 59 from k1)
    have HK3 := Lib.hid k3
    have HREST := Lib.hid (And.intro k2 (And.intro k4 (And.intro k6 k7)))
    have c2 := Blk.cell k1 2
    have HTT := Lib.hid hth
    have HHA := Lib.hid ha
    have HHB := Lib.hid hb
    clear h hth k1 k2 k3 k4 k6 k7
    go_enter Try.func27, Try.ntmps27
    go_wp2_with (first
      | (go_at_call 22; refine HT.out.mono ?_; rintro e w1 ⟨rfl, rfl⟩; clear HT)
      | (at_mapUpdate; refine wpList_put rfl (.tmp 15) (.tmp 18) (.tmp 19) 57 rfl uC HK3.out (by omega) rfl a b HHA.out HHB.out rfl (.int .i64 v) rfl ?_; intro w1 hm1 hx1; have HM1 := Lib.hid hm1; have HX1 := Lib.hid hx1; have d2 := Blk.cell (Blk.ext HK.out hx1 (fun e => n2 e)) 2; clear hm1 hx1 HK3 c2)
      | (at_mapUpdate; refine wpList_put rfl (.tmp 23) (.tmp 26) (.tmp 27) 57 rfl uC HM1.out (by omega) rfl b a HHB.out HHA.out rfl (.int .i64 v) rfl ?_; intro w2 hm2 hx2; have HM2 := Lib.hid hm2; have HX2 := Lib.hid (HX1.out.trans hx2 (fun q _ e => e)); clear hm2 hx2 HM1 d2))
    go_end0
    obtain ⟨k2, k4, k6, k7⟩ := HREST.out
    have hM : Ext M w w2 := HX2.out.mono (fun q _ e => by have e : q = bc := e; rw [e]; exact k4.2.2)
    refine ⟨rfl, ?_, hM⟩
    have hm2 := HM2.out
    rw [upd_int, upd_int] at hm2
    have hh := HH.out
    unfold turnN
    rw [if_pos HTT.out]
    exact ⟨⟨bw, bc, V, Blk.ext HK.out HX2.out (fun e => n2 e), (k2.ext HX2.out (fun e => n3 e)).mono (by omega), hm2, k4, ⟨n1, n2, n3⟩, fun x y hx hy => (k6 x y hx hy).ext HX2.out (fun q hq e => ((k7 x y hx hy q hq).1.2.2) e) (fun q hq e => hh.apart q hq (by have e : q = bc := e; rw [e]; exact k4.2.2)), k7⟩, hh.apart, fun q hq => Nat.lt_of_lt_of_le (hh.clt q hq) HX2.out.size, fun q hq => Nat.lt_of_lt_of_le (hh.mlt q hq) HX2.out.size, hh.nn, hh.len⟩
theorem Cut_any (g : Nat) (N : NS) (M C : Nat → Prop) (m : Nat) (hm : m + 2 < maxLen) (a b : Int) (ha : I64 a) (hb : I64 b) (w : World) (h : NetAt w M C g N m) : Calls Try.prog 13 #[.pointer (some ⟨g, 0, none⟩), .int .i64 a, .int .i64 b] w fun e w' => e = .returned (.tuple #[]) ∧ NetAt w' M C g (turnN N a b 1) (m + 2) ∧ Ext M w w' := by
  have HT := Lib.hid (turn_any g N M C m hm a b 1 ha hb w h)
  clear h
  go_enter Try.func13, Try.ntmps13
  go_wp2_with (go_at_call 27; refine HT.out.mono ?_; rintro e w1 ⟨rfl, h1, h2⟩; have H1 := Lib.hid h1; have H2 := Lib.hid h2; clear h1 h2 HT)
  go_end0
  exact ⟨rfl, H1.out, H2.out⟩
theorem Mend_any (g : Nat) (N : NS) (M C : Nat → Prop) (m : Nat) (hm : m + 2 < maxLen) (a b : Int) (ha : I64 a) (hb : I64 b) (w : World) (h : NetAt w M C g N m) : Calls Try.prog 15 #[.pointer (some ⟨g, 0, none⟩), .int .i64 a, .int .i64 b] w fun e w' => e = .returned (.tuple #[]) ∧ NetAt w' M C g (turnN N a b 0) (m + 2) ∧ Ext M w w' := by
  have HT := Lib.hid (turn_any g N M C m hm a b 0 ha hb w h)
  clear h
  go_enter Try.func15, Try.ntmps15
  go_wp2_with (go_at_call 27; refine HT.out.mono ?_; rintro e w1 ⟨rfl, h1, h2⟩; have H1 := Lib.hid h1; have H2 := Lib.hid h2; clear h1 h2 HT)
  go_end0
  exact ⟨rfl, H1.out, H2.out⟩
end Go.Proofs.Ythjabbheobpoeaa
