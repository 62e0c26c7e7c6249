/- Package net, walked: Send. Written by gen_nh.py. -/
import Derived.Test.YthjabbheobpoeaaNg
set_option linter.unusedVariables false
set_option linter.unusedSimpArgs false
namespace Go.Proofs.Ythjabbheobpoeaa
open Go.RowKit B
def send1 (N : NS) (q : Msg) : NS := if thereB N q.f q.t = true ∧ N.cut q.f q.t = 0 ∧ (N.wait q.f q.t).length < 64 then { N with wait := updW N.wait q.f q.t (N.wait q.f q.t ++ [q]) } else N
def sendN (N : NS) (l : List Msg) : NS := l.foldl send1 N
theorem sendN_succ (N : NS) (l : List Msg) (i : Nat) (q : Msg) (h : l[i]? = some q) : sendN N (l.take (i + 1)) = send1 (sendN N (l.take i)) q := by
  unfold sendN
  rw [List.take_add_one, h]
  simp [List.foldl_append]
/-- Messages that are handed in. -/
structure ArgL (w : World) (M : Nat → Prop) (gs : Nat) (l : List Msg) (pv : List (Option Addr × Nat)) : Prop where
  row : Row w (some ⟨gs, 0, none⟩) (msgsV l pv)
  len : pv.length = l.length
  ents : ∀ (i : Nat) (q : Msg) (p : Option Addr × Nat), l[i]? = some q → pv[i]? = some p → I64 q.f ∧ I64 q.t ∧ q.es.length ≤ 5864062014805 ∧ Row w p.1 (entV q.es) ∧ ∀ ad, p.1 = some ad → 0 < q.es.length → ¬ M ad.block
  far : ¬ M gs
theorem ArgL.ext {w w' : World} {M : Nat → Prop} {gs : Nat} {l : List Msg} {pv : List (Option Addr × Nat)} (h : ArgL w M gs l pv) (hx : Ext M w w') : ArgL w' M gs l pv :=
  ⟨h.row.ext hx (fun ad e => by cases e; exact h.far), h.len, fun i q p hq hp => by
    obtain ⟨a1, a2, a3, a4, a5⟩ := h.ents i q p hq hp
    exact ⟨a1, a2, a3, rowE a4 hx a5, a5⟩, h.far⟩
theorem ArgL.range {w : World} {M : Nat → Prop} {gs : Nat} {l : List Msg} {pv : List (Option Addr × Nat)} (h : ArgL w M gs l pv) {i : Nat} {q : Msg} {p : Option Addr × Nat} (hq : l[i]? = some q) (hp : pv[i]? = some p) : w.rangeAt gs (i * 10) (msgC q p.1 p.2).toList := fun j v hj => by
  have hjl : j < 10 := by have := (List.getElem?_eq_some_iff.1 hj).1; rwa [msgC_len] at this
  have hz : (l.zip pv)[i]? = some (q, p) := by rw [List.getElem?_zip_eq_some]; exact ⟨hq, hp⟩
  have hf := flat_ten (fun x : Msg × (Option Addr × Nat) => (msgC x.1 x.2.1 x.2.2).toList) (fun x => msgC_len _ _ _) (l.zip pv) i j (q, p) hz hjl
  obtain ⟨ad, e, hc⟩ := h.row (i * 10 + j) v (hf.trans hj)
  cases e
  rwa [add_plain] at hc
/-! ### the words of the region that appends a message -/
def SS (wK : World) (bw : Nat) (v : Value) : Nat → Nat → Prop := fun j k => (j = 1 ∧ k = bw) ∨ (j = 2 ∧ (v.ownBlock = some k)) ∨ (j = 3 ∧ k = bw)
def cMs (wK : World) (bw : Nat) (v : Value) (q : Msg) : CG (SS wK bw v) := cR 1 2 (fun u w => ∃ A c, u = .agg (msgC q A c) ∧ Own w 72 2 (fun k => wK.heap.size ≤ k) (.slice A q.es.length c) q.es.length (entV q.es) ∧ bw < wK.heap.size) (fun _ _ _ ⟨A, c, h1, h2, h3⟩ hx => ⟨A, c, h1, h2.ext0 hx, h3⟩)
  (fun k h1 h2 _ _ _ ⟨A, c, h3, h4, h5⟩ hx => ⟨A, c, h3, h4.ext hx (fun r hr e => by
    have := h4.blk r hr
    rcases e with e | e | e
    · omega
    · omega
    · omega), h5⟩)
def cBs (wK : World) (bw : Nat) (v : Value) (q : Msg) : CG (SS wK bw v) := cR 1 2 (fun u w => ∃ b A c, u = .slice (some ⟨b, 0, none⟩) 1 1 ∧ wK.heap.size ≤ b ∧ Row w (some ⟨b, 0, none⟩) (msgC q A c).toList ∧ Own w 72 2 (fun k => wK.heap.size ≤ k) (.slice A q.es.length c) q.es.length (entV q.es) ∧ bw < wK.heap.size) (fun _ _ _ ⟨b, A, c, h1, h2, h3, h4, h5⟩ hx => ⟨b, A, c, h1, h2, h3.ext0 hx, h4.ext0 hx, h5⟩)
  (fun k h1 h2 _ _ _ ⟨b, A, c, h3, h4, h5, h6, h7⟩ hx => ⟨b, A, c, h3, h4, h5.ext hx (fun ad e e2 => by
    cases e
    rcases e2 with e | e | e
    · have e : b = bw := e.2; omega
    · omega
    · omega), h6.ext hx (fun r hr e => by
    have := h6.blk r hr
    rcases e with e | e | e
    · omega
    · omega
    · omega), h7⟩)
def cEn (wK : World) (bw m : Nat) (v : Value) (V : Int → Int → Value) (a b : Int) : CG (SS wK bw v) := cR 2 3 (fun u w => ∃ (st : Nat) (wB : World), u = .tuple #[v, goInt st] ∧ (∀ (w2 : World) (u : Value), w2.heap[bw]? = wB.heap[bw]? → ∃ w3, (Instr.entryStore 56 (.map (some bw)) (goInt st) u).run Try.prog w2 = .ok () w3 ∧ MapF w3 wz bw (m + 1) (upd V a b u) ∧ Ext (fun k => k = bw) w2 w3) ∧ w.heap[bw]? = wB.heap[bw]? ∧ bw < w.heap.size ∧ ¬ v.ownBlock = some bw)
  (fun _ w w' ⟨st, wB, h1, h2, h3, h4, h5⟩ hx => ⟨st, wB, h1, h2, (hx.block bw h4 (fun a => a)).trans h3, Nat.lt_of_lt_of_le h4 hx.size, h5⟩)
  (fun k h1 h2 _ w w' ⟨st, wB, h3, h4, h5, h6, h7⟩ hx => ⟨st, wB, h3, h4, (hx.block bw h6 (fun e => by
    rcases e with e | e | e
    · omega
    · exact h7 e.2
    · omega)).trans h5, Nat.lt_of_lt_of_le h6 hx.size, h7⟩)
def cQs (wK : World) (bw : Nat) (v : Value) (q : Msg) (n : Nat) (xs : List Value) : CG (SS wK bw v) := cR 3 3 (fun u w => ∃ A c, Own w 28 10 (fun k => v.ownBlock = some k ∨ wK.heap.size ≤ k) u (n + 1) (xs ++ (msgC q A c).toList) ∧ Own w 72 2 (fun k => wK.heap.size ≤ k) (.slice A q.es.length c) q.es.length (entV q.es) ∧ (∀ k, (Value.slice A q.es.length c).ownBlock = some k → ¬ u.ownBlock = some k)) (fun _ _ _ ⟨A, c, h1, h2, h3⟩ hx => ⟨A, c, h1.ext0 hx, h2.ext0 hx, h3⟩) (fun k h1 h2 => by omega)
theorem msg_slice (q : Msg) (A : Option Addr) (c : Nat) (W : World) : (Instr.buildSlice 45 1 #[(0, .agg (msgC q A c))]).run Try.prog W = .ok (.slice (some ⟨W.heap.size, 0, none⟩) 1 1) (W.alloc (.cells (msgC q A c) 28)) := by
  obtain ⟨ie, hi, hz⟩ := Option.map_eq_some_iff.1 infoMsg
  simp only [Prod.mk.injEq] at hz
  obtain ⟨hz0, hz1, hz2⟩ := hz
  exact run_buildSlice W 45 28 1 _ _ ie _ Try.underlying45 hi hz0 (by rw [hz1]; decide) (by rw [hz1]; decide) (by rw [hz1]; kernel_rfl)
/-- What a round of Send leaves. -/
theorem send_fin {wK w2 : World} {M C : Nat → Prop} {g bw bc m : Nat} {N : NS} {V : Int → Int → Value} (h : NetAt wK M C g N m) (k1 : Blk wK g #[.int .i64 N.n, .map (some bw), .map (some bc)] 59) (k3 : MapF wK (.int .i64 0) bc m (fun a b => .int .i64 (N.cut a b))) (k4 : M g ∧ M bw ∧ M bc) (k5 : g ≠ bw ∧ g ≠ bc ∧ bw ≠ bc)
    (k6 : ∀ a b, I64 a → I64 b → QAt wK C M (V a b) (N.wait a b)) (k7 : ∀ a b, I64 a → I64 b → ∀ k, (V a b).ownBlock = some k → (k ≠ g ∧ k ≠ bw ∧ k ≠ bc) ∧ ∀ a' b', I64 a' → I64 b' → ¬ (a' = a ∧ b' = b) → ¬ (V a' b').ownBlock = some k)
    {q : Msg} (ha : I64 q.f) (hb : I64 q.t) (hq : thereB N q.f q.t = true ∧ N.cut q.f q.t = 0 ∧ (N.wait q.f q.t).length < 64) (hel : q.es.length ≤ 5864062014805) {pv : List (Option Addr × Nat)} (hpv : pv.length = (N.wait q.f q.t).length) (hown : Own wK 28 10 M (V q.f q.t) (N.wait q.f q.t).length (msgsV (N.wait q.f q.t) pv))
    (hent : ∀ (i : Nat) (q2 : Msg) (p : Option Addr × Nat), (N.wait q.f q.t)[i]? = some q2 → pv[i]? = some p → q2.es.length ≤ 5864062014805 ∧ Row wK p.1 (entV q2.es) ∧ ∀ ad, p.1 = some ad → 0 < q2.es.length → C ad.block)
    {u : Value} {A : Option Addr} {c : Nat} (hu : Own w2 28 10 (fun k => (V q.f q.t).ownBlock = some k ∨ wK.heap.size ≤ k) u ((N.wait q.f q.t).length + 1) (msgsV (N.wait q.f q.t) pv ++ (msgC q A c).toList)) (hE : Own w2 72 2 (fun k => wK.heap.size ≤ k) (.slice A q.es.length c) q.es.length (entV q.es)) (hne : ∀ k, (Value.slice A q.es.length c).ownBlock = some k → ¬ u.ownBlock = some k)
    (hmap : MapF w2 wz bw (m + 1) (upd V q.f q.t u)) (hx : Ext (fun k => k = bw ∨ (V q.f q.t).ownBlock = some k) wK w2) : Left wK w2 M C g (send1 N q) (m + 1) := by
  unfold send1
  rw [if_pos hq]
  have hl : (N.wait q.f q.t ++ [q]).length ≤ 64 := by rw [List.length_append, List.length_singleton]; omega
  refine h.put k1 k3 k4 k5 k6 k7 ha hb (by omega) hmap hx hl (fun k hk => hu.blk k hk) (C1 := fun k => C k ∨ (Value.slice A q.es.length c).ownBlock = some k) ?_ (fun k hk => .inl hk) (fun k hk => hk.imp id (fun e => ⟨hE.blk k e, hE.lt k e, hne k e⟩))
  refine ⟨pv ++ [(A, c)], by simp [hpv], ?_, fun i q2 p h1 h2 => ?_⟩
  · rw [msgsV_append _ _ _ _ hpv, List.length_append, List.length_singleton]
    have e : msgsV [q] [(A, c)] = (msgC q A c).toList := by simp [msgsV]
    rw [e]
    exact ⟨hu.own, fun k hk => .inr hk⟩
  · by_cases hi : i < (N.wait q.f q.t).length
    · rw [List.getElem?_append_left hi] at h1
      rw [List.getElem?_append_left (by omega)] at h2
      obtain ⟨b1, b2, b3⟩ := hent i q2 p h1 h2
      exact ⟨b1, rowE b2 hx (fun ad e hl2 e2 => h.apart _ (b3 ad e hl2) (by
        rcases e2 with e2 | e2
        · rw [e2]; exact k4.2.1
        · exact (k6 _ _ ha hb).blk _ e2)), fun ad e hl2 => .inl (b3 ad e hl2)⟩
    · rw [List.getElem?_append_right (by omega)] at h1
      rw [List.getElem?_append_right (by omega), hpv] at h2
      have hi2 : i - (N.wait q.f q.t).length = 0 := by
        have := (List.getElem?_eq_some_iff.1 h1).1
        simpa using this
      rw [hi2] at h1 h2
      cases h1
      cases h2
      obtain ⟨A', c', he, _, _, hr⟩ := hE.slice
      injection he with he _ _
      subst he
      exact ⟨hel, hr, fun ad e _ => .inr (by subst e; rfl)⟩
/-- An entry's mark. -/
def cSt (wK : World) (bw m : Nat) (v : Value) (V : Int → Int → Value) (a b : Int) : CG (SS wK bw v) := cR 2 3 (fun u w => ∃ (st : Nat), u = goInt st ∧ ∃ (wB : World), (∀ (w2 : World) (u : Value), w2.heap[bw]? = wB.heap[bw]? → ∃ w3, (Instr.entryStore 56 (.map (some bw)) (goInt st) u).run Try.prog w2 = .ok () w3 ∧ MapF w3 wz bw (m + 1) (upd V a b u) ∧ Ext (fun k => k = bw) w2 w3) ∧ w.heap[bw]? = wB.heap[bw]? ∧ bw < w.heap.size ∧ ¬ v.ownBlock = some bw)
  (fun _ w w' ⟨st, h1, wB, h2, h3, h4, h5⟩ hx => ⟨st, h1, wB, h2, (hx.block bw h4 (fun a => a)).trans h3, Nat.lt_of_lt_of_le h4 hx.size, h5⟩)
  (fun k h1 h2 _ w w' ⟨st, h3, wB, h4, h5, h6, h7⟩ hx => ⟨st, h3, wB, h4, (hx.block bw h6 (fun e => by
    rcases e with e | e | e
    · omega
    · exact h7 e.2
    · omega)).trans h5, Nat.lt_of_lt_of_le h6 hx.size, h7⟩)
theorem left_join {w w1 w2 w3 : World} {M C M' C' : Nat → Prop} {g : Nat} {N : NS} {m : Nat} (hx : Ext M w w1) (hM : ∀ k, M' k → M k ∨ w.heap.size ≤ k) (hC : ∀ k, C' k → C k ∨ w.heap.size ≤ k) (h12 : Ext None_ w1 w2) (h : Left w2 w3 M' C' g N m) : Left w w3 M C g N m := by
  obtain ⟨M2, C2, a1, a2, a3, a4⟩ := h
  have hs := hx.size
  have hs2 := h12.size
  refine ⟨M2, C2, a1, (hx.trans0 h12).trans a2 (fun k hk e => ?_), fun k hk => ?_, fun k hk => ?_⟩
  · rcases hM k e with e | e
    · exact e
    · omega
  · rcases a3 k hk with e | e
    · exact hM k e
    · exact .inr (by omega)
  · rcases a4 k hk with e | e
    · exact hC k e
    · exact .inr (by omega)
theorem ofQ' {S : Nat → Prop} {w w' : World} (hx : Ext None_ w w') : Ext S w w' := hx.mono (fun _ _ a => a.elim)
theorem keySize : (Try.prog.info? 38).map (·.size) = some 2 := by kernel_rfl
theorem key_range {w : World} {g : Nat} {a b : Int} {t : TypeId} (h : Blk w g #[.int .i64 a, .int .i64 b] t) : w.rangeAt g 0 [.int .i64 a, .int .i64 b] := fun j v hj => by
  rw [Nat.zero_add, Blk.cell h j]
  simpa using hj
theorem blk_range {w : World} {g : Nat} {cs : Array Value} {t : TypeId} (h : Blk w g cs t) : w.rangeAt g 0 cs.toList := fun j v hj => by
  rw [Nat.zero_add, Blk.cell h j]
  simpa using hj
set_option maxRecDepth 100000 in
set_option maxHeartbeats 16000000 in
theorem Send_any (g : Nat) (N : NS) (M C : Nat → Prop) (m : Nat) (gs c : Nat) (l : List Msg) (pv0 : List (Option Addr × Nat)) (hm : m + l.length + 1 < maxLen) (hll : l.length ≤ 1353245080301) (w : World) (h : NetAt w M C g N m) (harg : ArgL w M gs l pv0) : Calls Try.prog 8 #[.pointer (some ⟨g, 0, none⟩), .slice (some ⟨gs, 0, none⟩) l.length c] w fun e w' => e = .returned (.tuple #[]) ∧ Left w w' M C g (sendN N l) (m + l.length) := by
  have HH := Lib.hid h
  have HARG := Lib.hid harg
  have HL0 := Lib.hid (Left.refl h)
  clear h harg
  go_enter Try.func8, Try.ntmps8
  go_wp2_with fail
  go_loopw [9] (fun v9 wr => ∃ i : Nat, v9 = .int .i64 i ∧ i ≤ l.length ∧ Hid (Left w wr M C g (sendN N (l.take i)) (m + i))) (fun v9 _ => l.length - (intOf v9).toNat)
  case atStart => exact ⟨0, rfl, by omega, HL0⟩
  case round =>
    obtain ⟨i, rfl, hi, hleft⟩ := hrel
    by_cases hlt : i < l.length
    · obtain ⟨q, hq⟩ : ∃ q, l[i]? = some q := ⟨_, List.getElem?_eq_getElem hlt⟩
      obtain ⟨⟨p1, p2⟩, hp⟩ : ∃ p, pv0[i]? = some p := ⟨_, List.getElem?_eq_getElem (by rw [HARG.out.len]; exact hlt)⟩
      obtain ⟨M', C', hn', hxr, hM', hC'⟩ := hleft.out
      obtain ⟨N', hN'⟩ : ∃ N', N' = sendN N (l.take i) := ⟨_, rfl⟩
      obtain ⟨m', hm'⟩ : ∃ m', m' = m + i := ⟨_, rfl⟩
      rw [← hN', ← hm'] at hn'
      have har := HARG.out.ext hxr
      have hrg := har.range hq hp
      obtain ⟨hfa, hfb, hel, hrow, hfar⟩ := har.ents i q _ hq hp
      have hs1 : sendN N (l.take (i + 1)) = send1 N' q := by rw [hN']; exact sendN_succ N l i q hq
      have HRG := Lib.hid hrg
      have HROW := Lib.hid hrow
      have HFA := Lib.hid hfa
      have HFB := Lib.hid hfb
      have HN' := Lib.hid hn'
      have HXR := Lib.hid hxr
      have HM' := Lib.hid hM'
      have HC' := Lib.hid hC'
      have HS1 := Lib.hid hs1
      clear hq hp hn' hxr hM' hC' hN' har hrg hfa hfb hrow hfar hs1 HL0
      go_wp2_with (first
        | (refine wpList_load_mid rfl 28 (.tmp 11) rfl gs (i * 10) (by first | rfl | (simp [Addr.add]; done)) (msgC q p1 p2).toList _ HRG.out Try.underlying28 rfl msgSize ?_)
        | (refine wpList_store_blk rfl 28 (.tmp 5) (.tmp 12) rfl wr.heap.size (msgC q p1 p2) rfl rfl 28 (msgC msg0 none 0) (Blk.new wr _ _) msgSize rfl rfl ?_; intro wM hbM hxM; have HBM := Lib.hid hbM; have HXM : Hid (Ext None_ wr wM) := Lib.hid ((x0 wr _).trans hxM (fun r hr e => by have e : r = wr.heap.size := e; omega)); have e1 := Blk.cell hbM 1; have e2 := Blk.cell hbM 2; clear hbM hxM))
      obtain ⟨wK, hwK⟩ : ∃ x, x = wM.alloc (Obj.cells #[.int .i64 q.f, .int .i64 q.t] 38) := ⟨_, rfl⟩
      rw [← hwK]
      obtain ⟨bk, hbk⟩ : ∃ x, x = wM.heap.size := ⟨_, rfl⟩
      obtain ⟨bm, hbm⟩ : ∃ x, x = wr.heap.size := ⟨_, rfl⟩
      simp only [← hbk]
      have hxK : Ext None_ wM wK := by rw [hwK]; exact x0 _ _
      have HXK : Hid (Ext None_ wr wK) := Lib.hid (HXM.out.trans0 hxK)
      have HBK : Hid (Blk wK bk #[.int .i64 q.f, .int .i64 q.t] 38) := Lib.hid (by rw [hwK, hbk]; exact Blk.new _ _ _)
      have HBM2 := Lib.hid (HBM.out.ext hxK (fun a => a))
      clear HBM
      simp only [← hbm] at HBM2 e1 e2 ⊢
      replace e1 := Ext.cell hxK e1 (fun a => a)
      replace e2 := Ext.cell hxK e2 (fun a => a)
      have HNK := Lib.hid (HN'.out.ext0 HXK.out)
      obtain ⟨bw, bc, V, k1, k2, k3, k4, k5, k6, k7⟩ := HNK.out.lay
      have hqa := k6 _ _ HFA.out HFB.out
      obtain ⟨pv, hpv, hown, hent⟩ := hqa
      obtain ⟨A, cc, hv, hnc, hcm, hrow⟩ := hown.slice
      obtain ⟨n, hn⟩ : ∃ n, n = (N'.wait q.f q.t).length := ⟨_, rfl⟩
      have hlen := HNK.out.len q.f q.t
      have c1 := Blk.cell k1 1
      have c2 := Blk.cell k1 2
      obtain ⟨ct, hct⟩ : ∃ x, x = N'.cut q.f q.t := ⟨_, rfl⟩
      rw [← hn] at hlen hv hnc
      have HLC : Hid (∀ W, Ext None_ wK W → (Instr.lookup 57 (.map (some bc)) (kv q.f q.t) false).run Try.prog W = .ok (.int .i64 ct) W) := Lib.hid (fun W hx => by rw [hct]; exact (k3.ext0 hx).look uC (zI W) HFA.out HFB.out)
      have HLW : Hid (∀ W, Ext None_ wK W → (Instr.lookup 56 (.map (some bw)) (kv q.f q.t) false).run Try.prog W = .ok (Value.slice A n cc) W) := Lib.hid (fun W hx => by rw [← hv]; exact (k2.ext0 hx).look uW (zW W) HFA.out HFB.out)
      obtain ⟨th, hth⟩ : ∃ x, x = thereB N' q.f q.t := ⟨_, rfl⟩
      have HTH := Lib.hid hth.symm
      have HCT := Lib.hid hct
      have HN := Lib.hid hn
      have HKK := Lib.hid (And.intro k1 (And.intro k2 (And.intro k3 (And.intro k4 (And.intro k5 (And.intro k6 k7))))))
      have HOWN := Lib.hid (And.intro hpv (And.intro hown hent))
      have HSK0 : Hid (send1 N' q = N' → Left w wK M C g (sendN N (l.take (i + 1))) (m + (i + 1))) := Lib.hid (fun h1 => by
        rw [HS1.out, h1]
        exact (left_join HXR.out HM'.out HC'.out HXK.out (Left.refl HNK.out)).mono (by omega))
      clear k1 k2 k3 k4 k5 k6 k7 hpv hown hent hrow hv hth hwK hbk hbm hn hct hxK hnc hcm
      cases th with
      | false =>
        have HSK := Lib.hid (HSK0.out (by unfold send1; rw [if_neg (fun h => by rw [HTH.out] at h; exact absurd h.1 (by decide))]))
        refine wp_region_mem [sv _, sv _, sv _, sv _, sv _, sv (.bool false), sv (.bool false), sAny, sAny, sAny, sAny, sAny, sAny, sAny, sv (.bool false), sv (.bool false), sAny, sAny, sAny, sAny, sAny, sAny, sAny, sAny, sv (.bool false)] (by kernel_rfl) rfl rfl rfl rfl ⟨
          (by
            intro Lq aq wq hd hj Kq hK
            rw [if_pos (wanted_none rfl)]
            have f0 := hj.base 0 rfl rfl
            exact opMove hK rfl (ev f0) rfl),
          (by
            intro Lq aq wq hd hj Kq hK
            rw [if_pos (wanted_none rfl)]
            have f5 := hj.base 5 rfl rfl
            exact opFieldA hK rfl (k := 1) (ev f5) (fun W => by kernel_rfl) rfl),
          (by
            intro Lq aq wq hd hj Kq hK
            rw [if_pos (wanted_none rfl)]
            have f19 := hj.val 1 19 rfl rfl (by simp) rfl (hd ⟨1, .data⟩ (by simp) rfl)
            first
              | exact opLoad hK rfl (ev f19) Try.underlying3 rfl (Ext.cell ((Ext.refl None_ wK).drew.trans0 hj.ext) e1 (fun a => a)) rfl
              | exact opLoad hK rfl (ev f19) Try.underlying3 rfl (Ext.cell ((Ext.refl None_ wK).drew.trans0 hj.ext) e2 (fun a => a)) rfl
              | exact opLoad hK rfl (ev f19) Try.underlying3 rfl (Ext.cell ((Ext.refl None_ wK).drew.trans0 hj.ext) c1 (fun a => a)) rfl
              | exact opLoad hK rfl (ev f19) Try.underlying3 rfl (Ext.cell ((Ext.refl None_ wK).drew.trans0 hj.ext) c2 (fun a => a)) rfl),
          (by
            intro Lq aq wq hd hj Kq hK
            rw [if_pos (wanted_none rfl)]
            have f5 := hj.base 5 rfl rfl
            exact opFieldA hK rfl (k := 2) (ev f5) (fun W => by kernel_rfl) rfl),
          (by
            intro Lq aq wq hd hj Kq hK
            rw [if_pos (wanted_none rfl)]
            have f21 := hj.val 3 21 rfl rfl (by simp) rfl (hd ⟨3, .data⟩ (by simp) rfl)
            first
              | exact opLoad hK rfl (ev f21) Try.underlying3 rfl (Ext.cell ((Ext.refl None_ wK).drew.trans0 hj.ext) e1 (fun a => a)) rfl
              | exact opLoad hK rfl (ev f21) Try.underlying3 rfl (Ext.cell ((Ext.refl None_ wK).drew.trans0 hj.ext) e2 (fun a => a)) rfl
              | exact opLoad hK rfl (ev f21) Try.underlying3 rfl (Ext.cell ((Ext.refl None_ wK).drew.trans0 hj.ext) c1 (fun a => a)) rfl
              | exact opLoad hK rfl (ev f21) Try.underlying3 rfl (Ext.cell ((Ext.refl None_ wK).drew.trans0 hj.ext) c2 (fun a => a)) rfl),
          (by
            intro Lq aq wq hd hj Kq hK
            rw [if_pos (wanted_none rfl)]
            have f18 := hj.val 0 18 rfl rfl (by simp) rfl (hd ⟨0, .data⟩ (by simp) rfl)
            have f20 := hj.val 2 20 rfl rfl (by simp) rfl (hd ⟨2, .data⟩ (by simp) rfl)
            have f22 := hj.val 4 22 rfl rfl (by simp) rfl (hd ⟨4, .data⟩ (by simp) rfl)
            exact opCall hK Try.func22 (by kernel_rfl) rfl (args := #[.pointer (some ⟨g, 0, none⟩), .int .i64 q.f, .int .i64 q.t]) (by simp [ev f18, ev f20, ev f22]) ((there_any g N' M' C' m' q.f q.t _ (HNK.out.ext0 ((Ext.refl None_ wK).drew.trans0 hj.ext))).mono fun e w' ⟨h1, h2⟩ => ⟨_, h1, congrArg Value.bool HTH.out, h2 ▸ Ext.refl _ _⟩)),
          (by
            intro Lq aq wq hd hj Kq hK
            rw [if_pos (wanted_none rfl)]
            have f23 := hj.val 5 23 rfl rfl (by simp) rfl (hd ⟨5, .data⟩ (by simp) rfl)
            exact opMove hK rfl (ev f23) rfl),
          (by
            intro Lq aq wq hd hj Kq hK
            have fg := hj.val 6 24 rfl rfl (by simp) rfl (hd ⟨6, .guard⟩ (by simp) rfl)
            rw [wanted_some (c := false) rfl rfl rfl fg, if_neg (by decide)]
            exact trivial),
          (by
            intro Lq aq wq hd hj Kq hK
            have fg := hj.val 6 24 rfl rfl (by simp) rfl (hd ⟨6, .guard⟩ (by simp) rfl)
            rw [wanted_some (c := false) rfl rfl rfl fg, if_neg (by decide)]
            exact trivial),
          (by
            intro Lq aq wq hd hj Kq hK
            have fg := hj.val 6 24 rfl rfl (by simp) rfl (hd ⟨6, .guard⟩ (by simp) rfl)
            rw [wanted_some (c := false) rfl rfl rfl fg, if_neg (by decide)]
            exact trivial),
          (by
            intro Lq aq wq hd hj Kq hK
            have fg := hj.val 6 24 rfl rfl (by simp) rfl (hd ⟨6, .guard⟩ (by simp) rfl)
            rw [wanted_some (c := false) rfl rfl rfl fg, if_neg (by decide)]
            exact trivial),
          (by
            intro Lq aq wq hd hj Kq hK
            have fg := hj.val 6 24 rfl rfl (by simp) rfl (hd ⟨6, .guard⟩ (by simp) rfl)
            rw [wanted_some (c := false) rfl rfl rfl fg, if_neg (by decide)]
            exact trivial),
          (by
            intro Lq aq wq hd hj Kq hK
            have fg := hj.val 6 24 rfl rfl (by simp) rfl (hd ⟨6, .guard⟩ (by simp) rfl)
            rw [wanted_some (c := false) rfl rfl rfl fg, if_neg (by decide)]
            exact trivial),
          (by
            intro Lq aq wq hd hj Kq hK
            have fg := hj.val 6 24 rfl rfl (by simp) rfl (hd ⟨6, .guard⟩ (by simp) rfl)
            rw [wanted_some (c := false) rfl rfl rfl fg, if_neg (by decide)]
            exact trivial),
          (by
            intro Lq aq wq hd hj Kq hK
            rw [if_pos (wanted_none rfl)]
            have f24 := hj.val 6 24 rfl rfl (by simp) rfl (hd ⟨6, .data⟩ (by simp) rfl)
            exact opPick hK rfl (b := false) (ev f24) ((if_neg (by decide)).trans (rfl)) rfl),
          (by
            intro Lq aq wq hd hj Kq hK
            rw [if_pos (wanted_none rfl)]
            have f32 := hj.val 14 32 rfl rfl (by simp) rfl (hd ⟨14, .data⟩ (by simp) rfl)
            exact opMove hK rfl (ev f32) rfl),
          (by
            intro Lq aq wq hd hj Kq hK
            have fg := hj.val 15 33 rfl rfl (by simp) rfl (hd ⟨15, .guard⟩ (by simp) rfl)
            rw [wanted_some (c := false) rfl rfl rfl fg, if_neg (by decide)]
            exact trivial),
          (by
            intro Lq aq wq hd hj Kq hK
            have fg := hj.val 15 33 rfl rfl (by simp) rfl (hd ⟨15, .guard⟩ (by simp) rfl)
            rw [wanted_some (c := false) rfl rfl rfl fg, if_neg (by decide)]
            exact trivial),
          (by
            intro Lq aq wq hd hj Kq hK
            have fg := hj.val 15 33 rfl rfl (by simp) rfl (hd ⟨15, .guard⟩ (by simp) rfl)
            rw [wanted_some (c := false) rfl rfl rfl fg, if_neg (by decide)]
            exact trivial),
          (by
            intro Lq aq wq hd hj Kq hK
            have fg := hj.val 15 33 rfl rfl (by simp) rfl (hd ⟨15, .guard⟩ (by simp) rfl)
            rw [wanted_some (c := false) rfl rfl rfl fg, if_neg (by decide)]
            exact trivial),
          (by
            intro Lq aq wq hd hj Kq hK
            have fg := hj.val 15 33 rfl rfl (by simp) rfl (hd ⟨15, .guard⟩ (by simp) rfl)
            rw [wanted_some (c := false) rfl rfl rfl fg, if_neg (by decide)]
            exact trivial),
          (by
            intro Lq aq wq hd hj Kq hK
            have fg := hj.val 15 33 rfl rfl (by simp) rfl (hd ⟨15, .guard⟩ (by simp) rfl)
            rw [wanted_some (c := false) rfl rfl rfl fg, if_neg (by decide)]
            exact trivial),
          (by
            intro Lq aq wq hd hj Kq hK
            have fg := hj.val 15 33 rfl rfl (by simp) rfl (hd ⟨15, .guard⟩ (by simp) rfl)
            rw [wanted_some (c := false) rfl rfl rfl fg, if_neg (by decide)]
            exact trivial),
          (by
            intro Lq aq wq hd hj Kq hK
            have fg := hj.val 15 33 rfl rfl (by simp) rfl (hd ⟨15, .guard⟩ (by simp) rfl)
            rw [wanted_some (c := false) rfl rfl rfl fg, if_neg (by decide)]
            exact trivial),
          (by
            intro Lq aq wq hd hj Kq hK
            rw [if_pos (wanted_none rfl)]
            have f33 := hj.val 15 33 rfl rfl (by simp) rfl (hd ⟨15, .data⟩ (by simp) rfl)
            exact opPick hK rfl (b := false) (ev f33) ((if_neg (by decide)).trans (rfl)) rfl),
          trivial⟩ ?fin
        case fin =>
          intro vs w9 hx hg
          have v24 : vs 24 = _ := hg 24 (by decide)
          have hxx := (Ext.refl None_ wK).drew.trans0 hx
          have HL9 := Lib.hid (HSK.out.trans0 hxx)
          clear hx hg e1 e2 c1 c2
          simp only [putAll, v24, Nat.reduceAdd, Nat.zero_add]
          simp only [Act.put, List.setIfInBounds_toArray, List.set_cons_succ, List.set_cons_zero]
          go_wp2_with fail
          go_roundw
          case rel => exact ⟨i + 1, by go_num, by omega, HL9⟩
          case measure => simp [intOf]; omega
      | true =>
        by_cases hc0 : decide (ct = 0) = true
        · by_cases hl64 : decide ((n : Int) < 64) = true
          · have hsend : thereB N' q.f q.t = true ∧ N'.cut q.f q.t = 0 ∧ (N'.wait q.f q.t).length < 64 := ⟨HTH.out, by rw [← HCT.out]; exact of_decide_eq_true hc0, by rw [← HN.out]; have := of_decide_eq_true hl64; omega⟩
            have HSEND := Lib.hid hsend
            clear hsend
            refine wp_region_mem [sv _, sv _, sv _, sv _, sv _, sv (.bool true), sv (.bool true), sv _, sv _, sv _, sv _, sv _, sv _, sv (.bool true), sv (.bool true), sv (.bool true), sv _, sv _, sv _, sv _, sv _, sv _, sv _, sv (.bool true), sv (.bool true)] (by kernel_rfl) rfl rfl rfl rfl ⟨
              (by
                intro Lq aq wq hd hj Kq hK
                rw [if_pos (wanted_none rfl)]
                have f0 := hj.base 0 rfl rfl
                exact opMove hK rfl (ev f0) rfl),
              (by
                intro Lq aq wq hd hj Kq hK
                rw [if_pos (wanted_none rfl)]
                have f5 := hj.base 5 rfl rfl
                exact opFieldA hK rfl (k := 1) (ev f5) (fun W => by kernel_rfl) rfl),
              (by
                intro Lq aq wq hd hj Kq hK
                rw [if_pos (wanted_none rfl)]
                have f19 := hj.val 1 19 rfl rfl (by simp) rfl (hd ⟨1, .data⟩ (by simp) rfl)
                first
                  | exact opLoad hK rfl (ev f19) Try.underlying3 rfl (Ext.cell ((Ext.refl None_ wK).drew.trans0 hj.ext) e1 (fun a => a)) rfl
                  | exact opLoad hK rfl (ev f19) Try.underlying3 rfl (Ext.cell ((Ext.refl None_ wK).drew.trans0 hj.ext) e2 (fun a => a)) rfl
                  | exact opLoad hK rfl (ev f19) Try.underlying3 rfl (Ext.cell ((Ext.refl None_ wK).drew.trans0 hj.ext) c1 (fun a => a)) rfl
                  | exact opLoad hK rfl (ev f19) Try.underlying3 rfl (Ext.cell ((Ext.refl None_ wK).drew.trans0 hj.ext) c2 (fun a => a)) rfl),
              (by
                intro Lq aq wq hd hj Kq hK
                rw [if_pos (wanted_none rfl)]
                have f5 := hj.base 5 rfl rfl
                exact opFieldA hK rfl (k := 2) (ev f5) (fun W => by kernel_rfl) rfl),
              (by
                intro Lq aq wq hd hj Kq hK
                rw [if_pos (wanted_none rfl)]
                have f21 := hj.val 3 21 rfl rfl (by simp) rfl (hd ⟨3, .data⟩ (by simp) rfl)
                first
                  | exact opLoad hK rfl (ev f21) Try.underlying3 rfl (Ext.cell ((Ext.refl None_ wK).drew.trans0 hj.ext) e1 (fun a => a)) rfl
                  | exact opLoad hK rfl (ev f21) Try.underlying3 rfl (Ext.cell ((Ext.refl None_ wK).drew.trans0 hj.ext) e2 (fun a => a)) rfl
                  | exact opLoad hK rfl (ev f21) Try.underlying3 rfl (Ext.cell ((Ext.refl None_ wK).drew.trans0 hj.ext) c1 (fun a => a)) rfl
                  | exact opLoad hK rfl (ev f21) Try.underlying3 rfl (Ext.cell ((Ext.refl None_ wK).drew.trans0 hj.ext) c2 (fun a => a)) rfl),
              (by
                intro Lq aq wq hd hj Kq hK
                rw [if_pos (wanted_none rfl)]
                have f18 := hj.val 0 18 rfl rfl (by simp) rfl (hd ⟨0, .data⟩ (by simp) rfl)
                have f20 := hj.val 2 20 rfl rfl (by simp) rfl (hd ⟨2, .data⟩ (by simp) rfl)
                have f22 := hj.val 4 22 rfl rfl (by simp) rfl (hd ⟨4, .data⟩ (by simp) rfl)
                exact opCall hK Try.func22 (by kernel_rfl) rfl (args := #[.pointer (some ⟨g, 0, none⟩), .int .i64 q.f, .int .i64 q.t]) (by simp [ev f18, ev f20, ev f22]) ((there_any g N' M' C' m' q.f q.t _ (HNK.out.ext0 ((Ext.refl None_ wK).drew.trans0 hj.ext))).mono fun e w' ⟨h1, h2⟩ => ⟨_, h1, congrArg Value.bool HTH.out, h2 ▸ Ext.refl _ _⟩)),
              (by
                intro Lq aq wq hd hj Kq hK
                rw [if_pos (wanted_none rfl)]
                have f23 := hj.val 5 23 rfl rfl (by simp) rfl (hd ⟨5, .data⟩ (by simp) rfl)
                exact opMove hK rfl (ev f23) rfl),
              (by
                intro Lq aq wq hd hj Kq hK
                have fg := hj.val 6 24 rfl rfl (by simp) rfl (hd ⟨6, .guard⟩ (by simp) rfl)
                rw [wanted_some (c := true) rfl rfl rfl fg, if_pos (by rfl)]
                have f0 := hj.base 0 rfl rfl
                exact opMove hK rfl (ev f0) rfl),
              (by
                intro Lq aq wq hd hj Kq hK
                have fg := hj.val 6 24 rfl rfl (by simp) rfl (hd ⟨6, .guard⟩ (by simp) rfl)
                rw [wanted_some (c := true) rfl rfl rfl fg, if_pos (by rfl)]
                have f25 := hj.val 7 25 rfl rfl (by simp) rfl (hd ⟨7, .data⟩ (by simp) rfl)
                exact opNil hK rfl (ev f25) rfl),
              (by
                intro Lq aq wq hd hj Kq hK
                have fg := hj.val 6 24 rfl rfl (by simp) rfl (hd ⟨6, .guard⟩ (by simp) rfl)
                rw [wanted_some (c := true) rfl rfl rfl fg, if_pos (by rfl)]
                have f26 := hj.val 8 26 rfl rfl (by simp) rfl (hd ⟨8, .data⟩ (by simp) rfl)
                exact opFieldA hK rfl (k := 2) (ev f26) (fun W => by kernel_rfl) rfl),
              (by
                intro Lq aq wq hd hj Kq hK
                have fg := hj.val 6 24 rfl rfl (by simp) rfl (hd ⟨6, .guard⟩ (by simp) rfl)
                rw [wanted_some (c := true) rfl rfl rfl fg, if_pos (by rfl)]
                have f27 := hj.val 9 27 rfl rfl (by simp) rfl (hd ⟨9, .data⟩ (by simp) rfl)
                first
                  | exact opLoad hK rfl (ev f27) Try.underlying57 rfl (Ext.cell ((Ext.refl None_ wK).drew.trans0 hj.ext) e1 (fun a => a)) rfl
                  | exact opLoad hK rfl (ev f27) Try.underlying57 rfl (Ext.cell ((Ext.refl None_ wK).drew.trans0 hj.ext) e2 (fun a => a)) rfl
                  | exact opLoad hK rfl (ev f27) Try.underlying57 rfl (Ext.cell ((Ext.refl None_ wK).drew.trans0 hj.ext) c1 (fun a => a)) rfl
                  | exact opLoad hK rfl (ev f27) Try.underlying57 rfl (Ext.cell ((Ext.refl None_ wK).drew.trans0 hj.ext) c2 (fun a => a)) rfl),
              (by
                intro Lq aq wq hd hj Kq hK
                have fg := hj.val 6 24 rfl rfl (by simp) rfl (hd ⟨6, .guard⟩ (by simp) rfl)
                rw [wanted_some (c := true) rfl rfl rfl fg, if_pos (by rfl)]
                have f6 := hj.base 6 rfl rfl
                exact opLoadMid hK rfl bk 0 (ev f6) [.int .i64 q.f, .int .i64 q.t] (key_range (HBK.out.ext ((Ext.refl None_ wK).drew.trans0 hj.ext) (fun a => a))) Try.underlying38 rfl keySize rfl),
              (by
                intro Lq aq wq hd hj Kq hK
                have fg := hj.val 6 24 rfl rfl (by simp) rfl (hd ⟨6, .guard⟩ (by simp) rfl)
                rw [wanted_some (c := true) rfl rfl rfl fg, if_pos (by rfl)]
                have f28 := hj.val 10 28 rfl rfl (by simp) rfl (hd ⟨10, .data⟩ (by simp) rfl)
                have f29 := hj.val 11 29 rfl rfl (by simp) rfl (hd ⟨11, .data⟩ (by simp) rfl)
                exact opLookup hK rfl (ev f28) (ev f29) (HLC.out _ ((Ext.refl None_ wK).drew.trans0 hj.ext)) rfl),
              (by
                intro Lq aq wq hd hj Kq hK
                have fg := hj.val 6 24 rfl rfl (by simp) rfl (hd ⟨6, .guard⟩ (by simp) rfl)
                rw [wanted_some (c := true) rfl rfl rfl fg, if_pos (by rfl)]
                have f30 := hj.val 12 30 rfl rfl (by simp) rfl (hd ⟨12, .data⟩ (by simp) rfl)
                exact opBin hK rfl (ev f30) rfl (guardInt _ _ _ _ _ _ _ _ _) (binEqInt _ _ _ _ _) (congrArg Value.bool (by first | rfl | assumption | (simp; omega) | (simp [*]; done)))),
              (by
                intro Lq aq wq hd hj Kq hK
                rw [if_pos (wanted_none rfl)]
                have f24 := hj.val 6 24 rfl rfl (by simp) rfl (hd ⟨6, .data⟩ (by simp) rfl)
                have f31 := hj.val 13 31 rfl rfl (by simp) rfl (hd ⟨13, .data⟩ (by simp) rfl)
                exact opPick hK rfl (b := true) (ev f24) ((if_pos rfl).trans (ev f31)) rfl),
              (by
                intro Lq aq wq hd hj Kq hK
                rw [if_pos (wanted_none rfl)]
                have f32 := hj.val 14 32 rfl rfl (by simp) rfl (hd ⟨14, .data⟩ (by simp) rfl)
                exact opMove hK rfl (ev f32) rfl),
              (by
                intro Lq aq wq hd hj Kq hK
                have fg := hj.val 15 33 rfl rfl (by simp) rfl (hd ⟨15, .guard⟩ (by simp) rfl)
                rw [wanted_some (c := true) rfl rfl rfl fg, if_pos (by rfl)]
                have f0 := hj.base 0 rfl rfl
                exact opMove hK rfl (ev f0) rfl),
              (by
                intro Lq aq wq hd hj Kq hK
                have fg := hj.val 15 33 rfl rfl (by simp) rfl (hd ⟨15, .guard⟩ (by simp) rfl)
                rw [wanted_some (c := true) rfl rfl rfl fg, if_pos (by rfl)]
                have f34 := hj.val 16 34 rfl rfl (by simp) rfl (hd ⟨16, .data⟩ (by simp) rfl)
                exact opNil hK rfl (ev f34) rfl),
              (by
                intro Lq aq wq hd hj Kq hK
                have fg := hj.val 15 33 rfl rfl (by simp) rfl (hd ⟨15, .guard⟩ (by simp) rfl)
                rw [wanted_some (c := true) rfl rfl rfl fg, if_pos (by rfl)]
                have f35 := hj.val 17 35 rfl rfl (by simp) rfl (hd ⟨17, .data⟩ (by simp) rfl)
                exact opFieldA hK rfl (k := 1) (ev f35) (fun W => by kernel_rfl) rfl),
              (by
                intro Lq aq wq hd hj Kq hK
                have fg := hj.val 15 33 rfl rfl (by simp) rfl (hd ⟨15, .guard⟩ (by simp) rfl)
                rw [wanted_some (c := true) rfl rfl rfl fg, if_pos (by rfl)]
                have f36 := hj.val 18 36 rfl rfl (by simp) rfl (hd ⟨18, .data⟩ (by simp) rfl)
                first
                  | exact opLoad hK rfl (ev f36) Try.underlying56 rfl (Ext.cell ((Ext.refl None_ wK).drew.trans0 hj.ext) e1 (fun a => a)) rfl
                  | exact opLoad hK rfl (ev f36) Try.underlying56 rfl (Ext.cell ((Ext.refl None_ wK).drew.trans0 hj.ext) e2 (fun a => a)) rfl
                  | exact opLoad hK rfl (ev f36) Try.underlying56 rfl (Ext.cell ((Ext.refl None_ wK).drew.trans0 hj.ext) c1 (fun a => a)) rfl
                  | exact opLoad hK rfl (ev f36) Try.underlying56 rfl (Ext.cell ((Ext.refl None_ wK).drew.trans0 hj.ext) c2 (fun a => a)) rfl),
              (by
                intro Lq aq wq hd hj Kq hK
                have fg := hj.val 15 33 rfl rfl (by simp) rfl (hd ⟨15, .guard⟩ (by simp) rfl)
                rw [wanted_some (c := true) rfl rfl rfl fg, if_pos (by rfl)]
                have f6 := hj.base 6 rfl rfl
                exact opLoadMid hK rfl bk 0 (ev f6) [.int .i64 q.f, .int .i64 q.t] (key_range (HBK.out.ext ((Ext.refl None_ wK).drew.trans0 hj.ext) (fun a => a))) Try.underlying38 rfl keySize rfl),
              (by
                intro Lq aq wq hd hj Kq hK
                have fg := hj.val 15 33 rfl rfl (by simp) rfl (hd ⟨15, .guard⟩ (by simp) rfl)
                rw [wanted_some (c := true) rfl rfl rfl fg, if_pos (by rfl)]
                have f37 := hj.val 19 37 rfl rfl (by simp) rfl (hd ⟨19, .data⟩ (by simp) rfl)
                have f38 := hj.val 20 38 rfl rfl (by simp) rfl (hd ⟨20, .data⟩ (by simp) rfl)
                exact opLookup hK rfl (ev f37) (ev f38) (HLW.out _ ((Ext.refl None_ wK).drew.trans0 hj.ext)) rfl),
              (by
                intro Lq aq wq hd hj Kq hK
                have fg := hj.val 15 33 rfl rfl (by simp) rfl (hd ⟨15, .guard⟩ (by simp) rfl)
                rw [wanted_some (c := true) rfl rfl rfl fg, if_pos (by rfl)]
                have f39 := hj.val 21 39 rfl rfl (by simp) rfl (hd ⟨21, .data⟩ (by simp) rfl)
                exact opLen hK rfl (ev f39) (by kernel_rfl) rfl),
              (by
                intro Lq aq wq hd hj Kq hK
                have fg := hj.val 15 33 rfl rfl (by simp) rfl (hd ⟨15, .guard⟩ (by simp) rfl)
                rw [wanted_some (c := true) rfl rfl rfl fg, if_pos (by rfl)]
                have f40 := hj.val 22 40 rfl rfl (by simp) rfl (hd ⟨22, .data⟩ (by simp) rfl)
                exact opBin hK rfl (ev f40) rfl (guardInt _ _ _ _ _ _ _ _ _) (binLt _ _ _ _ _) (congrArg Value.bool (by first | rfl | assumption | (simp; omega) | (simp [*]; done)))),
              (by
                intro Lq aq wq hd hj Kq hK
                rw [if_pos (wanted_none rfl)]
                have f33 := hj.val 15 33 rfl rfl (by simp) rfl (hd ⟨15, .data⟩ (by simp) rfl)
                have f41 := hj.val 23 41 rfl rfl (by simp) rfl (hd ⟨23, .data⟩ (by simp) rfl)
                exact opPick hK rfl (b := true) (ev f33) ((if_pos rfl).trans (ev f41)) rfl),
              trivial⟩ ?fin
            case fin =>
              intro vs w9 hx hg
              have v24 : vs 24 = _ := hg 24 (by decide)
              have hxx := (Ext.refl None_ wK).drew.trans0 hx
              have d1 := Ext.cell hxx c1 (fun a => a)
              have HBK9 := Lib.hid (HBK.out.ext hxx (fun a => a))
              have HBM9 := Lib.hid (HBM2.out.ext hxx (fun a => a))
              have HROW9 : Hid (∀ W, Ext None_ w9 W → Row W p1 (entV q.es)) := Lib.hid (fun W hy => HROW.out.ext0 ((HXK.out.trans0 hxx).trans0 hy))
              have HMW9 := Lib.hid (HKK.out.2.1.ext0 hxx)
              have HOW9 : Hid (Own w9 28 10 M' (V q.f q.t) n (msgsV (N'.wait q.f q.t) pv)) := Lib.hid (by rw [HN.out]; exact HOWN.out.2.1.ext0 hxx)
              have hk7 := HKK.out.2.2.2.2.2.2 q.f q.t HFA.out HFB.out
              have HVB : Hid ((∀ r, (V q.f q.t).ownBlock = some r → r < w9.heap.size) ∧ True ∧ ¬ (V q.f q.t).ownBlock = some bw ∧ True) := Lib.hid ⟨fun r hr => HOW9.out.lt r hr, trivial, fun e => (hk7 bw e).1.2.1 rfl, trivial⟩
              have hbwl : bw < w9.heap.size := (HNK.out.ext0 hxx).mlt bw HKK.out.2.2.2.1.2.1
              have HFIN : Hid (∀ (u : Value) (A : Option Addr) (c : Nat) (w3 : World), Own w3 28 10 (fun k => (V q.f q.t).ownBlock = some k ∨ w9.heap.size ≤ k) u (n + 1) (msgsV (N'.wait q.f q.t) pv ++ (msgC q A c).toList) → Own w3 72 2 (fun k => w9.heap.size ≤ k) (.slice A q.es.length c) q.es.length (entV q.es) → (∀ k, (Value.slice A q.es.length c).ownBlock = some k → ¬ u.ownBlock = some k) → MapF w3 wz bw (m' + 1) (upd V q.f q.t u) → Ext (fun k => k = bw ∨ (V q.f q.t).ownBlock = some k) w9 w3 → Left w9 w3 M' C' g (send1 N' q) (m' + 1)) := Lib.hid (by
                intro u A c w3 a1 a2 a3 a4 a5
                obtain ⟨k1, k2, k3, k4, k5, k6, k7⟩ := HKK.out
                obtain ⟨b1, b2, b3⟩ := HOWN.out
                rw [HN.out] at a1
                exact send_fin (HNK.out.ext0 hxx) (k1.ext hxx (fun a => a)) (k3.ext0 hxx) k4 k5 (fun a b ha hb => (k6 a b ha hb).ext0 hxx) k7 HFA.out HFB.out HSEND.out hel b1 (b2.ext0 hxx) (fun i q2 p h1 h2 => ⟨(b3 i q2 p h1 h2).1, (b3 i q2 p h1 h2).2.1.ext0 hxx, (b3 i q2 p h1 h2).2.2⟩) a1 a2 a3 a4 a5)
              have HJ : Hid (∀ w3, Left w9 w3 M' C' g (send1 N' q) (m' + 1) → Left w w3 M C g (sendN N (l.take (i + 1))) (m + (i + 1))) := Lib.hid (fun w3 h3 => by
                rw [HS1.out, show m + (i + 1) = m' + 1 by omega]
                exact left_join HXR.out HM'.out HC'.out (HXK.out.trans0 hxx) h3)
              have hm1 : m' + 1 < maxLen := by omega
              clear hx hg e1 e2 c1 c2 hk7 hxx
              simp only [putAll, v24, Nat.reduceAdd, Nat.zero_add]
              simp only [Act.put, List.setIfInBounds_toArray, List.set_cons_succ, List.set_cons_zero]
              go_wp2_with fail
              refine wp_region_chain [6, 8, 10, 12] [(0, 1), (0, 1), (0, 1), (0, 1), (0, 1), (0, 0), (0, 1), (1, 2), (1, 2), (2, 2), (2, 3), (2, 3), (3, 4)] (SS w9 bw (V q.f q.t)) [⟨fun W => Ext None_ w9 W, fun _ _ h hx => h.trans0 hx⟩, ⟨fun W => Ext None_ w9 W, fun _ _ h hx => h.trans0 hx⟩, ⟨fun W => Ext (fun k => k = bw) w9 W, fun _ _ h hx => h.trans0 hx⟩, ⟨fun W => Ext (fun k => k = bw ∨ (V q.f q.t).ownBlock = some k) w9 W, fun _ _ h hx => h.trans0 hx⟩, ⟨fun W => Left w9 W M' C' g (send1 N' q) (m' + 1), fun _ _ h hx => h.trans0 hx⟩] [cv _, cv _, cv _, cv _, cv (.agg #[.int .i64 q.f, .int .i64 q.t]), cv (.agg (msgC q p1 p2)), cMs w9 bw (V q.f q.t) q, cBs w9 bw (V q.f q.t) q, cEn w9 bw m' (V q.f q.t) V q.f q.t, cv (V q.f q.t), cQs w9 bw (V q.f q.t) q n (msgsV (N'.wait q.f q.t) pv), cSt w9 bw m' (V q.f q.t) V q.f q.t, cAny] (by kernel_rfl) rfl rfl rfl rfl rfl rfl rfl rfl (((Ext.refl None_ w9).drew : Ext None_ w9 w9.drew)) ⟨
                (by
                  intro Lq aq wq kq hd hj hlo hhi Kq hK
                  rw [if_pos (wanted_none rfl)]
                  have f0 := hj.base 0 rfl rfl
                  exact opMove hK rfl (ev f0) rfl),
                (by
                  intro Lq aq wq kq hd hj hlo hhi Kq hK
                  rw [if_pos (wanted_none rfl)]
                  have f43 := hj.val 0 43 rfl rfl (by simp) rfl (hd ⟨0, .data⟩ (by simp) rfl)
                  exact opNil hK rfl (ev f43) rfl),
                (by
                  intro Lq aq wq kq hd hj hlo hhi Kq hK
                  rw [if_pos (wanted_none rfl)]
                  have f44 := hj.val 1 44 rfl rfl (by simp) rfl (hd ⟨1, .data⟩ (by simp) rfl)
                  exact opFieldA hK rfl (k := 1) (ev f44) (fun W => by kernel_rfl) rfl),
                (by
                  intro Lq aq wq kq hd hj hlo hhi Kq hK
                  rw [if_pos (wanted_none rfl)]
                  have f45 := hj.val 2 45 rfl rfl (by simp) rfl (hd ⟨2, .data⟩ (by simp) rfl)
                  have hj0 : Ext None_ w9 wq := by
                    have hk : kq = 0 ∨ kq = 1 := by (have : kq ≤ 1 := hhi; omega)
                    rcases hk with rfl | rfl
                    · exact hj.inv
                    · exact hj.inv
                  exact opLoad hK rfl (ev f45) Try.underlying56 rfl (Ext.cell hj0 d1 (fun a => a)) rfl),
                (by
                  intro Lq aq wq kq hd hj hlo hhi Kq hK
                  rw [if_pos (wanted_none rfl)]
                  have f6 := hj.base 6 rfl rfl
                  have hj0 : Ext None_ w9 wq := by
                    have hk : kq = 0 ∨ kq = 1 := by (have : kq ≤ 1 := hhi; omega)
                    rcases hk with rfl | rfl
                    · exact hj.inv
                    · exact hj.inv
                  exact opLoadMid hK rfl bk 0 (ev f6) [.int .i64 q.f, .int .i64 q.t] (key_range (HBK9.out.ext hj0 (fun a => a))) Try.underlying38 rfl keySize rfl),
                (by
                  intro Lq aq wq kq hd hj hlo hhi Kq hK
                  rw [if_pos (wanted_none rfl)]
                  have f5 := hj.base 5 rfl rfl
                  obtain rfl : kq = 0 := Nat.le_antisymm hhi (Nat.zero_le _)
                  exact opLoadMid hK rfl bm 0 (ev f5) (msgC q p1 p2).toList (blk_range (HBM9.out.ext (hj.inv : Ext None_ w9 wq) (fun a => a))) Try.underlying28 rfl msgSize rfl),
                (by
                  intro Lq aq wq hd hj Kq hK
                  rw [if_pos (wanted_none rfl)]
                  have f49 := hj.val 5 49 rfl rfl (by simp) rfl (hd ⟨5, .data⟩ (by simp) rfl)
                  exact opCallC hK Try.func23 (by kernel_rfl) rfl (args := #[.agg (msgC q p1 p2)]) (by simp [ev f49]) ((own_any q p1 p2 wq (HROW9.out _ (hj.inv : Ext None_ w9 wq)) hel).mono fun e w' ⟨A', c', h1, h2, h3⟩ => ⟨_, h1, ⟨Nat.le_refl _, fun _ => ⟨A', c', rfl, h2.mono (fun r _ hr => Nat.le_trans (Ext.size (hj.inv : Ext None_ w9 wq)) hr), hbwl⟩⟩, Ext.trans0 hj.inv h3, ofQ' h3⟩)),
                (by
                  intro Lq aq wq kq hd hj hlo hhi Kq hK
                  rw [if_pos (wanted_none rfl)]
                  obtain ⟨u50, f50, g50⟩ := hj.at_ 6 50 rfl rfl (by simp) (hd ⟨6, .data⟩ (by simp) rfl)
                  obtain ⟨A', c', rfl, ho, hb0⟩ := g50.2 hhi
                  have hsz : w9.heap.size ≤ wq.heap.size := by
                    have hk : kq = 1 ∨ kq = 2 := by (have : kq ≤ 2 := hhi; have : 1 ≤ kq := hlo; omega)
                    rcases hk with rfl | rfl
                    · exact Ext.size (hj.inv : Ext None_ w9 wq)
                    · exact Ext.size (hj.inv : Ext (fun k => k = bw) w9 wq)
                  exact opSlice hK rfl (ps := #[(0, .agg (msgC q A' c'))]) (by simp [ev f50]) (msg_slice q A' c') ⟨hlo, fun _ => ⟨wq.heap.size, A', c', rfl, hsz, (Blk.new wq _ _).row, ho.alloc _, hb0⟩⟩),
                (by
                  intro Lq aq wq hd hj Kq hK
                  rw [if_pos (wanted_none rfl)]
                  have f46 := hj.val 3 46 rfl rfl (by simp) rfl (hd ⟨3, .data⟩ (by simp) rfl)
                  have f47 := hj.val 4 47 rfl rfl (by simp) rfl (hd ⟨4, .data⟩ (by simp) rfl)
                  obtain ⟨st, wB, hr, hxB, hst⟩ := (HMW9.out.ext0 (hj.inv : Ext None_ w9 wq)).entry (by omega) uW (fun u => zW u) HFA.out HFB.out
                  exact opEntryC hK rfl (ev f46) (ev f47) hr ⟨Nat.le_refl _, fun _ => ⟨st, wB, rfl, hst, rfl, Nat.lt_of_lt_of_le hbwl (Nat.le_trans (Ext.size (hj.inv : Ext None_ w9 wq)) hxB.size), HVB.out.2.2.1⟩⟩ ((Ext.mono (hj.inv : Ext None_ w9 wq) (fun _ _ e => e.elim)).trans hxB (fun _ _ e => e)) (hxB.mono (fun k _ e => .inl ⟨rfl, e⟩))),
                (by
                  intro Lq aq wq kq hd hj hlo hhi Kq hK
                  rw [if_pos (wanted_none rfl)]
                  obtain ⟨u52, f52, g52⟩ := hj.at_ 8 52 rfl rfl (by simp) (hd ⟨8, .data⟩ (by simp) rfl)
                  obtain ⟨st, wB, rfl, _⟩ := g52.2 (Nat.le_trans hhi (by decide))
                  exact opExtract hK rfl (ev f52) rfl rfl),
                (by
                  intro Lq aq wq hd hj Kq hK
                  rw [if_pos (wanted_none rfl)]
                  have f48 := hj.val 9 48 rfl rfl (by simp) rfl (hd ⟨9, .data⟩ (by simp) rfl)
                  obtain ⟨u51, f51, g51⟩ := hj.at_ 7 51 rfl rfl (by simp) (hd ⟨7, .data⟩ (by simp) rfl)
                  obtain ⟨b, A', c', rfl, hb1, hb2, hb3, hb4⟩ := g51.2 (Nat.le_refl _)
                  have hxq : Ext (fun k => k = bw) w9 wq := hj.inv
                  exact wpAppM _ _ rfl M' (V q.f q.t) n (msgsV (N'.wait q.f q.t) pv) (ev f48) (HOW9.out.ext hxq (fun k hk e => HVB.out.2.2.1 (by rw [hk]; exact congrArg some e))) (some ⟨b, 0, none⟩) 1 1 (msgC q A' c').toList (ev f51) (msgC_len _ _ _) hb2 (msgC_one _ _ _) (by omega) (fun v' w' h1 h2 => hK v' w' ⟨Nat.le_refl _, fun _ => ⟨A', c', h1.mono (fun r _ e => e.imp id (fun e => Nat.le_trans (Ext.size hxq) e)), hb3.ext h2 (fun r hr e => by have h3 := hb3.blk r hr; have h4 := HVB.out.1 r e; omega), fun r hr hr2 => by
                    have h3 := hb3.blk r hr
                    have h3l := hb3.lt r hr
                    rcases h1.blk r hr2 with e | e
                    · have h4 := HVB.out.1 r e; omega
                    · omega⟩⟩ (Ext.trans (Ext.mono hxq (fun _ _ e => .inl e)) h2 (fun _ _ e => .inr e)) (h2.mono (fun k _ e => .inr (.inl ⟨rfl, e⟩))))),
                (by
                  intro Lq aq wq kq hd hj hlo hhi Kq hK
                  rw [if_pos (wanted_none rfl)]
                  obtain ⟨u52, f52, g52⟩ := hj.at_ 8 52 rfl rfl (by simp) (hd ⟨8, .data⟩ (by simp) rfl)
                  obtain ⟨st, wB, rfl, h2⟩ := g52.2 hhi
                  exact opExtract hK rfl (ev f52) rfl ⟨hlo, fun _ => ⟨st, rfl, wB, h2⟩⟩),
                (by
                  intro Lq aq wq hd hj Kq hK
                  rw [if_pos (wanted_none rfl)]
                  have f46 := hj.val 3 46 rfl rfl (by simp) rfl (hd ⟨3, .data⟩ (by simp) rfl)
                  obtain ⟨u54, f54, g54⟩ := hj.at_ 11 54 rfl rfl (by simp) (hd ⟨11, .data⟩ (by simp) rfl)
                  obtain ⟨u53, f53, g53⟩ := hj.at_ 10 53 rfl rfl (by simp) (hd ⟨10, .data⟩ (by simp) rfl)
                  obtain ⟨A', c', h1, h2, h3⟩ := g53.2 (Nat.le_refl _)
                  obtain ⟨st, hst1, wB, hst, hh, hh2, hh3⟩ := g54.2 (Nat.le_refl _)
                  subst hst1
                  have hxq : Ext (fun k => k = bw ∨ (V q.f q.t).ownBlock = some k) w9 wq := hj.inv
                  obtain ⟨w3, hr, hm3, hx3⟩ := hst wq u53 hh
                  exact opEntryStoreC hK rfl (ev f46) (ev f54) (ev f53) hr trivial (HFIN.out u53 A' c' w3 (h1.ext hx3 (fun r hr2 e => by
                    have e : r = bw := e
                    subst e
                    rcases h1.blk r hr2 with e | e
                    · exact HVB.out.2.2.1 e
                    · omega)) (h2.ext hx3 (fun r hr e => by have e : r = bw := e; have := h2.blk r hr; omega)) h3 hm3 (hxq.trans hx3 (fun _ _ e => .inl e))) (hx3.mono (fun k _ e => .inr (.inr ⟨rfl, e⟩)))),
                trivial⟩ ?fin
              case fin =>
                intro vs wZ hI hg
                have HL9 := Lib.hid (HJ.out wZ hI)
                clear hI hg
                simp only [putAll, Nat.reduceAdd, Nat.zero_add]
                simp only [Act.put, List.setIfInBounds_toArray, List.set_cons_succ, List.set_cons_zero]
                go_wp2_with fail
                go_roundw
                case rel => exact ⟨i + 1, by go_num, by omega, HL9⟩
                case measure => simp [intOf]; omega
          · have HSK := Lib.hid (HSK0.out (by unfold send1; rw [if_neg (fun h => by
              rw [← HN.out] at h
              exact hl64 (decide_eq_true (by omega)))]))
            replace hl64 : decide ((n : Int) < 64) = false := Bool.eq_false_iff.2 hl64
            refine wp_region_mem [sv _, sv _, sv _, sv _, sv _, sv (.bool true), sv (.bool true), sv _, sv _, sv _, sv _, sv _, sv _, sv (.bool true), sv (.bool true), sv (.bool true), sv _, sv _, sv _, sv _, sv _, sv _, sv _, sv (.bool false), sv (.bool false)] (by kernel_rfl) rfl rfl rfl rfl ⟨
              (by
                intro Lq aq wq hd hj Kq hK
                rw [if_pos (wanted_none rfl)]
                have f0 := hj.base 0 rfl rfl
                exact opMove hK rfl (ev f0) rfl),
              (by
                intro Lq aq wq hd hj Kq hK
                rw [if_pos (wanted_none rfl)]
                have f5 := hj.base 5 rfl rfl
                exact opFieldA hK rfl (k := 1) (ev f5) (fun W => by kernel_rfl) rfl),
              (by
                intro Lq aq wq hd hj Kq hK
                rw [if_pos (wanted_none rfl)]
                have f19 := hj.val 1 19 rfl rfl (by simp) rfl (hd ⟨1, .data⟩ (by simp) rfl)
                first
                  | exact opLoad hK rfl (ev f19) Try.underlying3 rfl (Ext.cell ((Ext.refl None_ wK).drew.trans0 hj.ext) e1 (fun a => a)) rfl
                  | exact opLoad hK rfl (ev f19) Try.underlying3 rfl (Ext.cell ((Ext.refl None_ wK).drew.trans0 hj.ext) e2 (fun a => a)) rfl
                  | exact opLoad hK rfl (ev f19) Try.underlying3 rfl (Ext.cell ((Ext.refl None_ wK).drew.trans0 hj.ext) c1 (fun a => a)) rfl
                  | exact opLoad hK rfl (ev f19) Try.underlying3 rfl (Ext.cell ((Ext.refl None_ wK).drew.trans0 hj.ext) c2 (fun a => a)) rfl),
              (by
                intro Lq aq wq hd hj Kq hK
                rw [if_pos (wanted_none rfl)]
                have f5 := hj.base 5 rfl rfl
                exact opFieldA hK rfl (k := 2) (ev f5) (fun W => by kernel_rfl) rfl),
              (by
                intro Lq aq wq hd hj Kq hK
                rw [if_pos (wanted_none rfl)]
                have f21 := hj.val 3 21 rfl rfl (by simp) rfl (hd ⟨3, .data⟩ (by simp) rfl)
                first
                  | exact opLoad hK rfl (ev f21) Try.underlying3 rfl (Ext.cell ((Ext.refl None_ wK).drew.trans0 hj.ext) e1 (fun a => a)) rfl
                  | exact opLoad hK rfl (ev f21) Try.underlying3 rfl (Ext.cell ((Ext.refl None_ wK).drew.trans0 hj.ext) e2 (fun a => a)) rfl
                  | exact opLoad hK rfl (ev f21) Try.underlying3 rfl (Ext.cell ((Ext.refl None_ wK).drew.trans0 hj.ext) c1 (fun a => a)) rfl
                  | exact opLoad hK rfl (ev f21) Try.underlying3 rfl (Ext.cell ((Ext.refl None_ wK).drew.trans0 hj.ext) c2 (fun a => a)) rfl),
              (by
                intro Lq aq wq hd hj Kq hK
                rw [if_pos (wanted_none rfl)]
                have f18 := hj.val 0 18 rfl rfl (by simp) rfl (hd ⟨0, .data⟩ (by simp) rfl)
                have f20 := hj.val 2 20 rfl rfl (by simp) rfl (hd ⟨2, .data⟩ (by simp) rfl)
                have f22 := hj.val 4 22 rfl rfl (by simp) rfl (hd ⟨4, .data⟩ (by simp) rfl)
                exact opCall hK Try.func22 (by kernel_rfl) rfl (args := #[.pointer (some ⟨g, 0, none⟩), .int .i64 q.f, .int .i64 q.t]) (by simp [ev f18, ev f20, ev f22]) ((there_any g N' M' C' m' q.f q.t _ (HNK.out.ext0 ((Ext.refl None_ wK).drew.trans0 hj.ext))).mono fun e w' ⟨h1, h2⟩ => ⟨_, h1, congrArg Value.bool HTH.out, h2 ▸ Ext.refl _ _⟩)),
              (by
                intro Lq aq wq hd hj Kq hK
                rw [if_pos (wanted_none rfl)]
                have f23 := hj.val 5 23 rfl rfl (by simp) rfl (hd ⟨5, .data⟩ (by simp) rfl)
                exact opMove hK rfl (ev f23) rfl),
              (by
                intro Lq aq wq hd hj Kq hK
                have fg := hj.val 6 24 rfl rfl (by simp) rfl (hd ⟨6, .guard⟩ (by simp) rfl)
                rw [wanted_some (c := true) rfl rfl rfl fg, if_pos (by rfl)]
                have f0 := hj.base 0 rfl rfl
                exact opMove hK rfl (ev f0) rfl),
              (by
                intro Lq aq wq hd hj Kq hK
                have fg := hj.val 6 24 rfl rfl (by simp) rfl (hd ⟨6, .guard⟩ (by simp) rfl)
                rw [wanted_some (c := true) rfl rfl rfl fg, if_pos (by rfl)]
                have f25 := hj.val 7 25 rfl rfl (by simp) rfl (hd ⟨7, .data⟩ (by simp) rfl)
                exact opNil hK rfl (ev f25) rfl),
              (by
                intro Lq aq wq hd hj Kq hK
                have fg := hj.val 6 24 rfl rfl (by simp) rfl (hd ⟨6, .guard⟩ (by simp) rfl)
                rw [wanted_some (c := true) rfl rfl rfl fg, if_pos (by rfl)]
                have f26 := hj.val 8 26 rfl rfl (by simp) rfl (hd ⟨8, .data⟩ (by simp) rfl)
                exact opFieldA hK rfl (k := 2) (ev f26) (fun W => by kernel_rfl) rfl),
              (by
                intro Lq aq wq hd hj Kq hK
                have fg := hj.val 6 24 rfl rfl (by simp) rfl (hd ⟨6, .guard⟩ (by simp) rfl)
                rw [wanted_some (c := true) rfl rfl rfl fg, if_pos (by rfl)]
                have f27 := hj.val 9 27 rfl rfl (by simp) rfl (hd ⟨9, .data⟩ (by simp) rfl)
                first
                  | exact opLoad hK rfl (ev f27) Try.underlying57 rfl (Ext.cell ((Ext.refl None_ wK).drew.trans0 hj.ext) e1 (fun a => a)) rfl
                  | exact opLoad hK rfl (ev f27) Try.underlying57 rfl (Ext.cell ((Ext.refl None_ wK).drew.trans0 hj.ext) e2 (fun a => a)) rfl
                  | exact opLoad hK rfl (ev f27) Try.underlying57 rfl (Ext.cell ((Ext.refl None_ wK).drew.trans0 hj.ext) c1 (fun a => a)) rfl
                  | exact opLoad hK rfl (ev f27) Try.underlying57 rfl (Ext.cell ((Ext.refl None_ wK).drew.trans0 hj.ext) c2 (fun a => a)) rfl),
              (by
                intro Lq aq wq hd hj Kq hK
                have fg := hj.val 6 24 rfl rfl (by simp) rfl (hd ⟨6, .guard⟩ (by simp) rfl)
                rw [wanted_some (c := true) rfl rfl rfl fg, if_pos (by rfl)]
                have f6 := hj.base 6 rfl rfl
                exact opLoadMid hK rfl bk 0 (ev f6) [.int .i64 q.f, .int .i64 q.t] (key_range (HBK.out.ext ((Ext.refl None_ wK).drew.trans0 hj.ext) (fun a => a))) Try.underlying38 rfl keySize rfl),
              (by
                intro Lq aq wq hd hj Kq hK
                have fg := hj.val 6 24 rfl rfl (by simp) rfl (hd ⟨6, .guard⟩ (by simp) rfl)
                rw [wanted_some (c := true) rfl rfl rfl fg, if_pos (by rfl)]
                have f28 := hj.val 10 28 rfl rfl (by simp) rfl (hd ⟨10, .data⟩ (by simp) rfl)
                have f29 := hj.val 11 29 rfl rfl (by simp) rfl (hd ⟨11, .data⟩ (by simp) rfl)
                exact opLookup hK rfl (ev f28) (ev f29) (HLC.out _ ((Ext.refl None_ wK).drew.trans0 hj.ext)) rfl),
              (by
                intro Lq aq wq hd hj Kq hK
                have fg := hj.val 6 24 rfl rfl (by simp) rfl (hd ⟨6, .guard⟩ (by simp) rfl)
                rw [wanted_some (c := true) rfl rfl rfl fg, if_pos (by rfl)]
                have f30 := hj.val 12 30 rfl rfl (by simp) rfl (hd ⟨12, .data⟩ (by simp) rfl)
                exact opBin hK rfl (ev f30) rfl (guardInt _ _ _ _ _ _ _ _ _) (binEqInt _ _ _ _ _) (congrArg Value.bool (by first | rfl | assumption | (simp; omega) | (simp [*]; done)))),
              (by
                intro Lq aq wq hd hj Kq hK
                rw [if_pos (wanted_none rfl)]
                have f24 := hj.val 6 24 rfl rfl (by simp) rfl (hd ⟨6, .data⟩ (by simp) rfl)
                have f31 := hj.val 13 31 rfl rfl (by simp) rfl (hd ⟨13, .data⟩ (by simp) rfl)
                exact opPick hK rfl (b := true) (ev f24) ((if_pos rfl).trans (ev f31)) rfl),
              (by
                intro Lq aq wq hd hj Kq hK
                rw [if_pos (wanted_none rfl)]
                have f32 := hj.val 14 32 rfl rfl (by simp) rfl (hd ⟨14, .data⟩ (by simp) rfl)
                exact opMove hK rfl (ev f32) rfl),
              (by
                intro Lq aq wq hd hj Kq hK
                have fg := hj.val 15 33 rfl rfl (by simp) rfl (hd ⟨15, .guard⟩ (by simp) rfl)
                rw [wanted_some (c := true) rfl rfl rfl fg, if_pos (by rfl)]
                have f0 := hj.base 0 rfl rfl
                exact opMove hK rfl (ev f0) rfl),
              (by
                intro Lq aq wq hd hj Kq hK
                have fg := hj.val 15 33 rfl rfl (by simp) rfl (hd ⟨15, .guard⟩ (by simp) rfl)
                rw [wanted_some (c := true) rfl rfl rfl fg, if_pos (by rfl)]
                have f34 := hj.val 16 34 rfl rfl (by simp) rfl (hd ⟨16, .data⟩ (by simp) rfl)
                exact opNil hK rfl (ev f34) rfl),
              (by
                intro Lq aq wq hd hj Kq hK
                have fg := hj.val 15 33 rfl rfl (by simp) rfl (hd ⟨15, .guard⟩ (by simp) rfl)
                rw [wanted_some (c := true) rfl rfl rfl fg, if_pos (by rfl)]
                have f35 := hj.val 17 35 rfl rfl (by simp) rfl (hd ⟨17, .data⟩ (by simp) rfl)
                exact opFieldA hK rfl (k := 1) (ev f35) (fun W => by kernel_rfl) rfl),
              (by
                intro Lq aq wq hd hj Kq hK
                have fg := hj.val 15 33 rfl rfl (by simp) rfl (hd ⟨15, .guard⟩ (by simp) rfl)
                rw [wanted_some (c := true) rfl rfl rfl fg, if_pos (by rfl)]
                have f36 := hj.val 18 36 rfl rfl (by simp) rfl (hd ⟨18, .data⟩ (by simp) rfl)
                first
                  | exact opLoad hK rfl (ev f36) Try.underlying56 rfl (Ext.cell ((Ext.refl None_ wK).drew.trans0 hj.ext) e1 (fun a => a)) rfl
                  | exact opLoad hK rfl (ev f36) Try.underlying56 rfl (Ext.cell ((Ext.refl None_ wK).drew.trans0 hj.ext) e2 (fun a => a)) rfl
                  | exact opLoad hK rfl (ev f36) Try.underlying56 rfl (Ext.cell ((Ext.refl None_ wK).drew.trans0 hj.ext) c1 (fun a => a)) rfl
                  | exact opLoad hK rfl (ev f36) Try.underlying56 rfl (Ext.cell ((Ext.refl None_ wK).drew.trans0 hj.ext) c2 (fun a => a)) rfl),
              (by
                intro Lq aq wq hd hj Kq hK
                have fg := hj.val 15 33 rfl rfl (by simp) rfl (hd ⟨15, .guard⟩ (by simp) rfl)
                rw [wanted_some (c := true) rfl rfl rfl fg, if_pos (by rfl)]
                have f6 := hj.base 6 rfl rfl
                exact opLoadMid hK rfl bk 0 (ev f6) [.int .i64 q.f, .int .i64 q.t] (key_range (HBK.out.ext ((Ext.refl None_ wK).drew.trans0 hj.ext) (fun a => a))) Try.underlying38 rfl keySize rfl),
              (by
                intro Lq aq wq hd hj Kq hK
                have fg := hj.val 15 33 rfl rfl (by simp) rfl (hd ⟨15, .guard⟩ (by simp) rfl)
                rw [wanted_some (c := true) rfl rfl rfl fg, if_pos (by rfl)]
                have f37 := hj.val 19 37 rfl rfl (by simp) rfl (hd ⟨19, .data⟩ (by simp) rfl)
                have f38 := hj.val 20 38 rfl rfl (by simp) rfl (hd ⟨20, .data⟩ (by simp) rfl)
                exact opLookup hK rfl (ev f37) (ev f38) (HLW.out _ ((Ext.refl None_ wK).drew.trans0 hj.ext)) rfl),
              (by
                intro Lq aq wq hd hj Kq hK
                have fg := hj.val 15 33 rfl rfl (by simp) rfl (hd ⟨15, .guard⟩ (by simp) rfl)
                rw [wanted_some (c := true) rfl rfl rfl fg, if_pos (by rfl)]
                have f39 := hj.val 21 39 rfl rfl (by simp) rfl (hd ⟨21, .data⟩ (by simp) rfl)
                exact opLen hK rfl (ev f39) (by kernel_rfl) rfl),
              (by
                intro Lq aq wq hd hj Kq hK
                have fg := hj.val 15 33 rfl rfl (by simp) rfl (hd ⟨15, .guard⟩ (by simp) rfl)
                rw [wanted_some (c := true) rfl rfl rfl fg, if_pos (by rfl)]
                have f40 := hj.val 22 40 rfl rfl (by simp) rfl (hd ⟨22, .data⟩ (by simp) rfl)
                exact opBin hK rfl (ev f40) rfl (guardInt _ _ _ _ _ _ _ _ _) (binLt _ _ _ _ _) (congrArg Value.bool (by first | rfl | assumption | (simp; omega) | (simp [*]; done)))),
              (by
                intro Lq aq wq hd hj Kq hK
                rw [if_pos (wanted_none rfl)]
                have f33 := hj.val 15 33 rfl rfl (by simp) rfl (hd ⟨15, .data⟩ (by simp) rfl)
                have f41 := hj.val 23 41 rfl rfl (by simp) rfl (hd ⟨23, .data⟩ (by simp) rfl)
                exact opPick hK rfl (b := true) (ev f33) ((if_pos rfl).trans (ev f41)) rfl),
              trivial⟩ ?fin
            case fin =>
              intro vs w9 hx hg
              have v24 : vs 24 = _ := hg 24 (by decide)
              have hxx := (Ext.refl None_ wK).drew.trans0 hx
              have HL9 := Lib.hid (HSK.out.trans0 hxx)
              clear hx hg e1 e2 c1 c2
              simp only [putAll, v24, Nat.reduceAdd, Nat.zero_add]
              simp only [Act.put, List.setIfInBounds_toArray, List.set_cons_succ, List.set_cons_zero]
              go_wp2_with fail
              go_roundw
              case rel => exact ⟨i + 1, by go_num, by omega, HL9⟩
              case measure => simp [intOf]; omega
        · have HSK := Lib.hid (HSK0.out (by unfold send1; rw [if_neg (fun h => by
            rw [← HCT.out] at h
            exact hc0 (decide_eq_true h.2.1))]))
          replace hc0 : decide (ct = 0) = false := Bool.eq_false_iff.2 hc0
          refine wp_region_mem [sv _, sv _, sv _, sv _, sv _, sv (.bool true), sv (.bool true), sv _, sv _, sv _, sv _, sv _, sv _, sv (.bool false), sv (.bool false), sv (.bool false), sAny, sAny, sAny, sAny, sAny, sAny, sAny, sAny, sv (.bool false)] (by kernel_rfl) rfl rfl rfl rfl ⟨
            (by
              intro Lq aq wq hd hj Kq hK
              rw [if_pos (wanted_none rfl)]
              have f0 := hj.base 0 rfl rfl
              exact opMove hK rfl (ev f0) rfl),
            (by
              intro Lq aq wq hd hj Kq hK
              rw [if_pos (wanted_none rfl)]
              have f5 := hj.base 5 rfl rfl
              exact opFieldA hK rfl (k := 1) (ev f5) (fun W => by kernel_rfl) rfl),
            (by
              intro Lq aq wq hd hj Kq hK
              rw [if_pos (wanted_none rfl)]
              have f19 := hj.val 1 19 rfl rfl (by simp) rfl (hd ⟨1, .data⟩ (by simp) rfl)
              first
                | exact opLoad hK rfl (ev f19) Try.underlying3 rfl (Ext.cell ((Ext.refl None_ wK).drew.trans0 hj.ext) e1 (fun a => a)) rfl
                | exact opLoad hK rfl (ev f19) Try.underlying3 rfl (Ext.cell ((Ext.refl None_ wK).drew.trans0 hj.ext) e2 (fun a => a)) rfl
                | exact opLoad hK rfl (ev f19) Try.underlying3 rfl (Ext.cell ((Ext.refl None_ wK).drew.trans0 hj.ext) c1 (fun a => a)) rfl
                | exact opLoad hK rfl (ev f19) Try.underlying3 rfl (Ext.cell ((Ext.refl None_ wK).drew.trans0 hj.ext) c2 (fun a => a)) rfl),
            (by
              intro Lq aq wq hd hj Kq hK
              rw [if_pos (wanted_none rfl)]
              have f5 := hj.base 5 rfl rfl
              exact opFieldA hK rfl (k := 2) (ev f5) (fun W => by kernel_rfl) rfl),
            (by
              intro Lq aq wq hd hj Kq hK
              rw [if_pos (wanted_none rfl)]
              have f21 := hj.val 3 21 rfl rfl (by simp) rfl (hd ⟨3, .data⟩ (by simp) rfl)
              first
                | exact opLoad hK rfl (ev f21) Try.underlying3 rfl (Ext.cell ((Ext.refl None_ wK).drew.trans0 hj.ext) e1 (fun a => a)) rfl
                | exact opLoad hK rfl (ev f21) Try.underlying3 rfl (Ext.cell ((Ext.refl None_ wK).drew.trans0 hj.ext) e2 (fun a => a)) rfl
                | exact opLoad hK rfl (ev f21) Try.underlying3 rfl (Ext.cell ((Ext.refl None_ wK).drew.trans0 hj.ext) c1 (fun a => a)) rfl
                | exact opLoad hK rfl (ev f21) Try.underlying3 rfl (Ext.cell ((Ext.refl None_ wK).drew.trans0 hj.ext) c2 (fun a => a)) rfl),
            (by
              intro Lq aq wq hd hj Kq hK
              rw [if_pos (wanted_none rfl)]
              have f18 := hj.val 0 18 rfl rfl (by simp) rfl (hd ⟨0, .data⟩ (by simp) rfl)
              have f20 := hj.val 2 20 rfl rfl (by simp) rfl (hd ⟨2, .data⟩ (by simp) rfl)
              have f22 := hj.val 4 22 rfl rfl (by simp) rfl (hd ⟨4, .data⟩ (by simp) rfl)
              exact opCall hK Try.func22 (by kernel_rfl) rfl (args := #[.pointer (some ⟨g, 0, none⟩), .int .i64 q.f, .int .i64 q.t]) (by simp [ev f18, ev f20, ev f22]) ((there_any g N' M' C' m' q.f q.t _ (HNK.out.ext0 ((Ext.refl None_ wK).drew.trans0 hj.ext))).mono fun e w' ⟨h1, h2⟩ => ⟨_, h1, congrArg Value.bool HTH.out, h2 ▸ Ext.refl _ _⟩)),
            (by
              intro Lq aq wq hd hj Kq hK
              rw [if_pos (wanted_none rfl)]
              have f23 := hj.val 5 23 rfl rfl (by simp) rfl (hd ⟨5, .data⟩ (by simp) rfl)
              exact opMove hK rfl (ev f23) rfl),
            (by
              intro Lq aq wq hd hj Kq hK
              have fg := hj.val 6 24 rfl rfl (by simp) rfl (hd ⟨6, .guard⟩ (by simp) rfl)
              rw [wanted_some (c := true) rfl rfl rfl fg, if_pos (by rfl)]
              have f0 := hj.base 0 rfl rfl
              exact opMove hK rfl (ev f0) rfl),
            (by
              intro Lq aq wq hd hj Kq hK
              have fg := hj.val 6 24 rfl rfl (by simp) rfl (hd ⟨6, .guard⟩ (by simp) rfl)
              rw [wanted_some (c := true) rfl rfl rfl fg, if_pos (by rfl)]
              have f25 := hj.val 7 25 rfl rfl (by simp) rfl (hd ⟨7, .data⟩ (by simp) rfl)
              exact opNil hK rfl (ev f25) rfl),
            (by
              intro Lq aq wq hd hj Kq hK
              have fg := hj.val 6 24 rfl rfl (by simp) rfl (hd ⟨6, .guard⟩ (by simp) rfl)
              rw [wanted_some (c := true) rfl rfl rfl fg, if_pos (by rfl)]
              have f26 := hj.val 8 26 rfl rfl (by simp) rfl (hd ⟨8, .data⟩ (by simp) rfl)
              exact opFieldA hK rfl (k := 2) (ev f26) (fun W => by kernel_rfl) rfl),
            (by
              intro Lq aq wq hd hj Kq hK
              have fg := hj.val 6 24 rfl rfl (by simp) rfl (hd ⟨6, .guard⟩ (by simp) rfl)
              rw [wanted_some (c := true) rfl rfl rfl fg, if_pos (by rfl)]
              have f27 := hj.val 9 27 rfl rfl (by simp) rfl (hd ⟨9, .data⟩ (by simp) rfl)
              first
                | exact opLoad hK rfl (ev f27) Try.underlying57 rfl (Ext.cell ((Ext.refl None_ wK).drew.trans0 hj.ext) e1 (fun a => a)) rfl
                | exact opLoad hK rfl (ev f27) Try.underlying57 rfl (Ext.cell ((Ext.refl None_ wK).drew.trans0 hj.ext) e2 (fun a => a)) rfl
                | exact opLoad hK rfl (ev f27) Try.underlying57 rfl (Ext.cell ((Ext.refl None_ wK).drew.trans0 hj.ext) c1 (fun a => a)) rfl
                | exact opLoad hK rfl (ev f27) Try.underlying57 rfl (Ext.cell ((Ext.refl None_ wK).drew.trans0 hj.ext) c2 (fun a => a)) rfl),
            (by
              intro Lq aq wq hd hj Kq hK
              have fg := hj.val 6 24 rfl rfl (by simp) rfl (hd ⟨6, .guard⟩ (by simp) rfl)
              rw [wanted_some (c := true) rfl rfl rfl fg, if_pos (by rfl)]
              have f6 := hj.base 6 rfl rfl
              exact opLoadMid hK rfl bk 0 (ev f6) [.int .i64 q.f, .int .i64 q.t] (key_range (HBK.out.ext ((Ext.refl None_ wK).drew.trans0 hj.ext) (fun a => a))) Try.underlying38 rfl keySize rfl),
            (by
              intro Lq aq wq hd hj Kq hK
              have fg := hj.val 6 24 rfl rfl (by simp) rfl (hd ⟨6, .guard⟩ (by simp) rfl)
              rw [wanted_some (c := true) rfl rfl rfl fg, if_pos (by rfl)]
              have f28 := hj.val 10 28 rfl rfl (by simp) rfl (hd ⟨10, .data⟩ (by simp) rfl)
              have f29 := hj.val 11 29 rfl rfl (by simp) rfl (hd ⟨11, .data⟩ (by simp) rfl)
              exact opLookup hK rfl (ev f28) (ev f29) (HLC.out _ ((Ext.refl None_ wK).drew.trans0 hj.ext)) rfl),
            (by
              intro Lq aq wq hd hj Kq hK
              have fg := hj.val 6 24 rfl rfl (by simp) rfl (hd ⟨6, .guard⟩ (by simp) rfl)
              rw [wanted_some (c := true) rfl rfl rfl fg, if_pos (by rfl)]
              have f30 := hj.val 12 30 rfl rfl (by simp) rfl (hd ⟨12, .data⟩ (by simp) rfl)
              exact opBin hK rfl (ev f30) rfl (guardInt _ _ _ _ _ _ _ _ _) (binEqInt _ _ _ _ _) (congrArg Value.bool (by first | rfl | assumption | (simp; omega) | (simp [*]; done)))),
            (by
              intro Lq aq wq hd hj Kq hK
              rw [if_pos (wanted_none rfl)]
              have f24 := hj.val 6 24 rfl rfl (by simp) rfl (hd ⟨6, .data⟩ (by simp) rfl)
              have f31 := hj.val 13 31 rfl rfl (by simp) rfl (hd ⟨13, .data⟩ (by simp) rfl)
              exact opPick hK rfl (b := true) (ev f24) ((if_pos rfl).trans (ev f31)) rfl),
            (by
              intro Lq aq wq hd hj Kq hK
              rw [if_pos (wanted_none rfl)]
              have f32 := hj.val 14 32 rfl rfl (by simp) rfl (hd ⟨14, .data⟩ (by simp) rfl)
              exact opMove hK rfl (ev f32) rfl),
            (by
              intro Lq aq wq hd hj Kq hK
              have fg := hj.val 15 33 rfl rfl (by simp) rfl (hd ⟨15, .guard⟩ (by simp) rfl)
              rw [wanted_some (c := false) rfl rfl rfl fg, if_neg (by decide)]
              exact trivial),
            (by
              intro Lq aq wq hd hj Kq hK
              have fg := hj.val 15 33 rfl rfl (by simp) rfl (hd ⟨15, .guard⟩ (by simp) rfl)
              rw [wanted_some (c := false) rfl rfl rfl fg, if_neg (by decide)]
              exact trivial),
            (by
              intro Lq aq wq hd hj Kq hK
              have fg := hj.val 15 33 rfl rfl (by simp) rfl (hd ⟨15, .guard⟩ (by simp) rfl)
              rw [wanted_some (c := false) rfl rfl rfl fg, if_neg (by decide)]
              exact trivial),
            (by
              intro Lq aq wq hd hj Kq hK
              have fg := hj.val 15 33 rfl rfl (by simp) rfl (hd ⟨15, .guard⟩ (by simp) rfl)
              rw [wanted_some (c := false) rfl rfl rfl fg, if_neg (by decide)]
              exact trivial),
            (by
              intro Lq aq wq hd hj Kq hK
              have fg := hj.val 15 33 rfl rfl (by simp) rfl (hd ⟨15, .guard⟩ (by simp) rfl)
              rw [wanted_some (c := false) rfl rfl rfl fg, if_neg (by decide)]
              exact trivial),
            (by
              intro Lq aq wq hd hj Kq hK
              have fg := hj.val 15 33 rfl rfl (by simp) rfl (hd ⟨15, .guard⟩ (by simp) rfl)
              rw [wanted_some (c := false) rfl rfl rfl fg, if_neg (by decide)]
              exact trivial),
            (by
              intro Lq aq wq hd hj Kq hK
              have fg := hj.val 15 33 rfl rfl (by simp) rfl (hd ⟨15, .guard⟩ (by simp) rfl)
              rw [wanted_some (c := false) rfl rfl rfl fg, if_neg (by decide)]
              exact trivial),
            (by
              intro Lq aq wq hd hj Kq hK
              have fg := hj.val 15 33 rfl rfl (by simp) rfl (hd ⟨15, .guard⟩ (by simp) rfl)
              rw [wanted_some (c := false) rfl rfl rfl fg, if_neg (by decide)]
              exact trivial),
            (by
              intro Lq aq wq hd hj Kq hK
              rw [if_pos (wanted_none rfl)]
              have f33 := hj.val 15 33 rfl rfl (by simp) rfl (hd ⟨15, .data⟩ (by simp) rfl)
              exact opPick hK rfl (b := false) (ev f33) ((if_neg (by decide)).trans (rfl)) rfl),
            trivial⟩ ?fin
          case fin =>
            intro vs w9 hx hg
            have v24 : vs 24 = _ := hg 24 (by decide)
            have hxx := (Ext.refl None_ wK).drew.trans0 hx
            have HL9 := Lib.hid (HSK.out.trans0 hxx)
            clear hx hg e1 e2 c1 c2
            simp only [putAll, v24, Nat.reduceAdd, Nat.zero_add]
            simp only [Act.put, List.setIfInBounds_toArray, List.set_cons_succ, List.set_cons_zero]
            go_wp2_with fail
            go_roundw
            case rel => exact ⟨i + 1, by go_num, by omega, HL9⟩
            case measure => simp [intOf]; omega
    · have hie : i = l.length := by omega
      subst hie
      go_wp2_with fail
      go_end0
      refine ⟨rfl, ?_⟩
      have := hleft.out
      rwa [List.take_length] at this
end Go.Proofs.Ythjabbheobpoeaa
