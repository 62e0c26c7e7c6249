/- Package net, walked: take. Written by gen_ne.py. -/
import Derived.Test.YthjabbheobpoeaaNd
set_option linter.unusedVariables false
set_option linter.unusedSimpArgs false
namespace Go.Proofs.Ythjabbheobpoeaa
open Go.RowKit B
def updW (f : Int → Int → List Msg) (a b : Int) (l : List Msg) : Int → Int → List Msg := fun x y => if x = a ∧ y = b then l else f x y
theorem Left.trans0 {w w1 w2 : World} {M C : Nat → Prop} {g : Nat} {N : NS} {m : Nat} (h : Left w w1 M C g N m) (hx : Ext None_ w1 w2) : Left w w2 M C g N m := by
  obtain ⟨M', C', h1, h2, h3, h4⟩ := h
  exact ⟨M', C', h1.ext0 hx, h2.trans0 hx, h3, h4⟩
/-- A link's row is another one. -/
theorem NetAt.put {w w' : World} {M C C1 : Nat → Prop} {g : Nat} {N : NS} {m m' : Nat} (h : NetAt w M C g N m) {bw bc : Nat} {V : Int → Int → Value} (k1 : Blk w g #[.int .i64 N.n, .map (some bw), .map (some bc)] 59) (k3 : MapF w (.int .i64 0) bc m (fun a b => .int .i64 (N.cut a b))) (k4 : M g ∧ M bw ∧ M bc) (k5 : g ≠ bw ∧ g ≠ bc ∧ bw ≠ bc)
    (k6 : ∀ a b, I64 a → I64 b → QAt w C M (V a b) (N.wait a b)) (k7 : ∀ a b, I64 a → I64 b → ∀ k, (V a b).ownBlock = some k → (k ≠ g ∧ k ≠ bw ∧ k ≠ bc) ∧ ∀ a' b', I64 a' → I64 b' → ¬ (a' = a ∧ b' = b) → ¬ (V a' b').ownBlock = some k)
    {a b : Int} (ha : I64 a) (hb : I64 b) {v' : Value} {l' : List Msg} (hm' : m ≤ m') (hmap : MapF w' wz bw m' (upd V a b v')) (hx : Ext (fun k => k = bw ∨ (V a b).ownBlock = some k) w w') (hl : l'.length ≤ 64)
    (hnew : ∀ k, v'.ownBlock = some k → (V a b).ownBlock = some k ∨ w.heap.size ≤ k) (hq : QAt w' C1 (fun k => M k ∨ v'.ownBlock = some k) v' l') (hC : ∀ k, C k → C1 k) (hC1 : ∀ k, C1 k → C k ∨ (w.heap.size ≤ k ∧ k < w'.heap.size ∧ ¬ v'.ownBlock = some k)) : Left w w' M C g { N with wait := updW N.wait a b l' } m' := by
  have hsz := hx.size
  have hMx : ∀ k, (k = bw ∨ (V a b).ownBlock = some k) → M k := fun k hk => by
    rcases hk with rfl | hk
    · exact k4.2.1
    · exact (k6 a b ha hb).blk k hk
  have hv'lt := hq.lt
  refine ⟨fun k => M k ∨ v'.ownBlock = some k, C1, ⟨⟨bw, bc, upd V a b v', k1.ext hx (fun e => ?_), hmap, (k3.ext hx (fun e => ?_)).mono hm', ⟨.inl k4.1, .inl k4.2.1, .inl k4.2.2⟩, k5, fun x y hx1 hy1 => ?_, fun x y hx1 hy1 k hk => ?_⟩, fun k hk hk2 => ?_, fun k hk => ?_, fun k hk => ?_, h.nn, fun x y => ?_⟩, hx.mono (fun k _ e => hMx k e), fun k hk => ?_, fun k hk => ?_⟩
  · rcases e with e | e
    · exact k5.1 e
    · exact (k7 a b ha hb g e).1.1 rfl
  · rcases e with e | e
    · exact k5.2.2 e.symm
    · exact (k7 a b ha hb bc e).1.2.2 rfl
  · simp only [upd, updW]
    split
    · exact hq
    · rename_i hne
      refine ((k6 x y hx1 hy1).ext hx (fun k hk e => ?_) (fun k hk e => h.apart k hk (hMx k e))).mono (fun k hk => .inl hk) hC
      rcases e with e | e
      · exact (k7 x y hx1 hy1 k hk).1.2.1 e
      · exact (k7 x y hx1 hy1 k hk).2 a b ha hb (fun e2 => hne ⟨e2.1.symm, e2.2.symm⟩) e
  · simp only [upd] at hk ⊢
    split at hk
    · rename_i hxy
      rcases hnew k hk with e | e
      · refine ⟨(k7 a b ha hb k e).1, fun x' y' hx2 hy2 hne => ?_⟩
        rw [if_neg (fun e2 => hne ⟨e2.1.trans hxy.1.symm, e2.2.trans hxy.2.symm⟩)]
        exact (k7 a b ha hb k e).2 x' y' hx2 hy2 (fun e2 => hne ⟨e2.1.trans hxy.1.symm, e2.2.trans hxy.2.symm⟩)
      · have hg := h.mlt g k4.1
        have hbw := h.mlt bw k4.2.1
        have hbc := h.mlt bc k4.2.2
        refine ⟨⟨by omega, by omega, by omega⟩, fun x' y' hx2 hy2 hne e2 => ?_⟩
        rw [if_neg (fun e2 => hne ⟨e2.1.trans hxy.1.symm, e2.2.trans hxy.2.symm⟩)] at e2
        have := (k6 x' y' hx2 hy2).lt k e2
        omega
    · rename_i hxy
      refine ⟨(k7 x y hx1 hy1 k hk).1, fun x' y' hx2 hy2 hne e2 => ?_⟩
      split at e2
      · rename_i hxy2
        rcases hnew k e2 with e | e
        · exact (k7 x y hx1 hy1 k hk).2 a b ha hb (fun e3 => hxy ⟨e3.1.symm, e3.2.symm⟩) e
        · have := (k6 x y hx1 hy1).lt k hk
          omega
      · exact (k7 x y hx1 hy1 k hk).2 x' y' hx2 hy2 hne e2
  · rcases hC1 k hk with e | ⟨e1, e2, e3⟩
    · rcases hk2 with e2 | e2
      · exact h.apart k e e2
      · rcases hnew k e2 with e3 | e3
        · exact h.apart k e ((k6 a b ha hb).blk k e3)
        · have := h.clt k e; omega
    · rcases hk2 with e4 | e4
      · have := h.mlt k e4; omega
      · exact e3 e4
  · rcases hC1 k hk with e | ⟨e1, e2, e3⟩
    · have := h.clt k e; omega
    · exact e2
  · rcases hk with e | e
    · have := h.mlt k e; omega
    · exact hv'lt k e
  · simp only [updW]
    split
    · exact hl
    · exact h.len x y
  · rcases hk with e | e
    · exact .inl e
    · rcases hnew k e with e | e
      · exact .inl ((k6 a b ha hb).blk k e)
      · exact .inr e
  · rcases hC1 k hk with e | ⟨e1, _⟩
    · exact .inl e
    · exact .inr e1
theorem own_new {w wq w' : World} {v' : Value} {i : Nat} {xs : List Value} {t : TypeId} {z : Nat} (hs : w.heap.size ≤ wq.heap.size) (h : Own w' t z (fun k => (Value.slice none 0 0).ownBlock = some k ∨ wq.heap.size ≤ k) v' (0 + i) ([] ++ xs)) : Own w' t z (fun k => w.heap.size ≤ k) v' i xs := by
  rw [List.nil_append, Nat.zero_add] at h
  refine h.mono (fun k _ e => ?_)
  rcases e with e | e
  · simp [Value.ownBlock] at e
  · exact Nat.le_trans hs e
theorem own_grow {w wq w' : World} {u v' : Value} {i n : Nat} {xs : List Value} {t : TypeId} {z : Nat} (hs : w.heap.size ≤ wq.heap.size) (hu : ∀ k, u.ownBlock = some k → w.heap.size ≤ k) (hn : i = n) (h : Own w' t z (fun k => u.ownBlock = some k ∨ wq.heap.size ≤ k) v' i xs) : Own w' t z (fun k => w.heap.size ≤ k) v' n xs := by
  subst hn
  exact h.mono (fun k _ e => e.elim (hu k) (fun e => Nat.le_trans hs e))
def takeN (N : NS) (a b : Int) (i : Nat) : NS := { N with wait := updW N.wait a b ((N.wait a b).eraseIdx i) }
def ST (w : World) (bw : Nat) : Nat → Nat → Prop := fun j k => (j = 1 ∧ w.heap.size ≤ k) ∨ (j = 2 ∧ k = bw)
def cOM (w : World) (bw j n : Nat) (xs : List Value) : CG (ST w bw) := cR j j (fun u W => Own W 28 10 (fun k => w.heap.size ≤ k) u n xs) (fun _ _ _ h hx => h.ext0 hx) (fun k h1 h2 => by omega)
set_option maxRecDepth 100000 in
set_option maxHeartbeats 8000000 in
theorem take_any (g : Nat) (N : NS) (M C : Nat → Prop) (m : Nat) (hm : m + 1 < maxLen) (a b : Int) (ha : I64 a) (hb : I64 b) (i : Nat) (hi : i < (N.wait a b).length) (w : World) (h : NetAt w M C g N m) : Calls Try.prog 25 #[.pointer (some ⟨g, 0, none⟩), .int .i64 a, .int .i64 b, .int .i64 i] w fun e w' => e = .returned (.tuple #[]) ∧ Left w w' M C g (takeN N a b i) (m + 1) := by
  obtain ⟨bw, bc, V, k1, k2, k3, k4, k5, k6, k7⟩ := h.lay
  have hq := k6 a b ha hb
  obtain ⟨pv, hpv, hown, hent⟩ := hq
  obtain ⟨A, c, hv, hnc, hcm, hrow⟩ := hown.slice
  obtain ⟨n, hn⟩ : ∃ n, n = (N.wait a b).length := ⟨_, rfl⟩
  have hlen := h.len a b
  have c1 := Blk.cell k1 1
  have l1 := k2.look uW (zW w) ha hb
  rw [hv, ← hn] at l1
  obtain ⟨l, hl⟩ : ∃ l, l = N.wait a b := ⟨_, rfl⟩
  rw [← hl] at hpv hrow hent hown
  have hln : l.length = n := by rw [hl, hn]
  rw [← hn] at hi hnc hlen
  obtain ⟨A1, hA1, hc1⟩ := cut_h (P := Try.prog) 45 28 10 Try.underlying45 infoMsg A n c (i : Int) (by omega) (by omega)
  obtain ⟨A2, hA2, hc2⟩ := cut_l (P := Try.prog) 45 28 10 Try.underlying45 infoMsg A n c ((i : Int) + 1) (by omega) (by omega) hnc
  rw [show (i : Int).toNat = i by omega] at hc1
  rw [show ((i : Int) + 1).toNat = i + 1 by omega] at hA2 hc2
  have hvl : (msgsV l pv).length = n * 10 := by rw [msgsV_length _ _ hpv, hln]
  have HR1 : Hid (∀ W, Ext None_ w W → Row W A1 (msgsV (l.take i) (pv.take i))) := Lib.hid (fun W hx => by
    have := cut_row (lo := 0) (hi := i) (size := 10) (hrow.ext0 hx) hA1 (by rw [hvl]; omega)
    rw [msgsV_take _ _ _ hpv] at this
    simpa using this)
  have HR2 : Hid (∀ W, Ext None_ w W → Row W A2 (msgsV (l.drop (i + 1)) (pv.drop (i + 1)))) := Lib.hid (fun W hx => by
    have := cut_row (lo := i + 1) (hi := n) (size := 10) (hrow.ext0 hx) hA2 (by rw [hvl]; omega)
    rwa [List.take_of_length_le (by rw [hvl]; omega), msgsV_drop _ _ _ hpv] at this)
  have HC1 := Lib.hid hc1
  have HC2 := Lib.hid hc2
  have HPT : Hid ((pv.take i).length = (l.take i).length ∧ (pv.drop (i + 1)).length = (l.drop (i + 1)).length) := Lib.hid ⟨by simp [hpv], by simp [hpv]⟩
  have HL := Lib.hid hln
  have HA := Lib.hid ha
  have HB := Lib.hid hb
  have HMW := Lib.hid k2
  have HFIN : Hid (∀ (u : Value) (wq w2 : World), Ext None_ w wq → Own wq 28 10 (fun k => w.heap.size ≤ k) u (n - 1) (msgsV (l.take i) (pv.take i) ++ msgsV (l.drop (i + 1)) (pv.drop (i + 1))) → MapF w2 wz bw (m + 1) (upd V a b u) → Ext (fun k => k = bw) wq w2 → Left w w2 M C g (takeN N a b i) (m + 1)) := Lib.hid (by
    intro u wq w2 hxq ho hmap hx2
    have hbw : bw < w.heap.size := h.mlt bw k4.2.1
    have hx : Ext (fun k => k = bw ∨ (V a b).ownBlock = some k) w w2 := (hxq.mono (fun _ _ e => e.elim)).trans hx2 (fun k _ e => .inl e)
    have he : msgsV (l.take i) (pv.take i) ++ msgsV (l.drop (i + 1)) (pv.drop (i + 1)) = msgsV (l.eraseIdx i) (pv.eraseIdx i) := by
      rw [List.eraseIdx_eq_take_drop_succ, List.eraseIdx_eq_take_drop_succ, msgsV_append _ _ _ _ (by simp [hpv])]
    have hel : (l.eraseIdx i).length = n - 1 := by rw [List.length_eraseIdx, if_pos (by omega), hln]
    refine h.put k1 k3 k4 k5 k6 k7 ha hb (by omega) hmap hx (by rw [← hl, hel]; omega) (fun k hk => .inr (ho.blk k hk)) (C1 := C) ?_ (fun k hk => hk) (fun k hk => .inl hk)
    rw [← hl]
    refine ⟨pv.eraseIdx i, by rw [List.length_eraseIdx, List.length_eraseIdx, hpv], ?_, fun j q p hq hp => ?_⟩
    · rw [he] at ho
      rw [hel]
      have ho2 := ho.ext hx2 (fun k hk e => by have := ho.blk k hk; have e : k = bw := e; omega)
      exact ⟨ho2.own, fun k hk => .inr hk⟩
    · have hjj : ∃ j' : Nat, l[j']? = some q ∧ pv[j']? = some p := by
        rw [List.getElem?_eraseIdx] at hq hp
        by_cases hji : j < i
        · rw [if_pos hji] at hq hp; exact ⟨j, hq, hp⟩
        · rw [if_neg hji] at hq hp; exact ⟨j + 1, hq, hp⟩
      obtain ⟨j', h1, h2⟩ := hjj
      obtain ⟨b1, b2, b3⟩ := hent j' q p h1 h2
      exact ⟨b1, rowE b2 hx (fun ad e hl2 e2 => h.apart _ (b3 ad e hl2) (by
        rcases e2 with e2 | e2
        · rw [e2]; exact k4.2.1
        · exact (k6 a b ha hb).blk _ e2)), b3⟩)
  clear h k1 k2 k3 k4 k5 k6 k7 hown hent hrow hA1 hA2 hc1 hc2 hpv hl hv hvl hln hn ha hb hcm
  go_enter Try.func25, Try.ntmps25
  go_wp2_with fail
  refine wp_region_chain [10, 15, 16] [(0, 2), (0, 2), (0, 2), (0, 2), (0, 2), (0, 2), (0, 2), (0, 0), (0, 0), (0, 0), (0, 1), (0, 1), (0, 1), (0, 1), (0, 1), (1, 2), (2, 3)] (ST w bw) [⟨fun W => Ext None_ w.drew W, fun _ _ h hx => h.trans0 hx⟩, ⟨fun W => Ext None_ w.drew W, fun _ _ h hx => h.trans0 hx⟩, ⟨fun W => Ext None_ w.drew W, fun _ _ h hx => h.trans0 hx⟩, ⟨fun W => Left w W M C g (takeN N a b i) (m + 1), fun _ _ h hx => h.trans0 hx⟩] [cv _, cv _, cv _, cv _, cv _, cv _, cv (.agg #[.int .i64 a, .int .i64 b]), cv _, cv _, cv (.slice A1 i c), cOM w bw 1 i (msgsV (l.take i) (pv.take i)), cv _, cv _, cv (.int .i64 ((i : Int) + 1)), cv (.slice A2 (n - (i + 1)) (c - (i + 1))), cOM w bw 2 (n - 1) (msgsV (l.take i) (pv.take i) ++ msgsV (l.drop (i + 1)) (pv.drop (i + 1))), cAny] (by kernel_rfl) rfl rfl rfl rfl rfl rfl rfl rfl ((Ext.refl None_ w.drew : Ext None_ w.drew w.drew)) ⟨
    (by
      intro Lq aq wq kq hd hj hlo hhi Kq hK
      rw [if_pos (wanted_none rfl)]
      have f0 := hj.base 0 rfl rfl
      exact opMove hK rfl (ev f0) rfl),
    (by
      intro Lq aq wq kq hd hj hlo hhi Kq hK
      rw [if_pos (wanted_none rfl)]
      have f17 := hj.val 0 17 rfl rfl (by simp) rfl (hd ⟨0, .data⟩ (by simp) rfl)
      exact opNil hK rfl (ev f17) rfl),
    (by
      intro Lq aq wq kq hd hj hlo hhi Kq hK
      rw [if_pos (wanted_none rfl)]
      have f18 := hj.val 1 18 rfl rfl (by simp) rfl (hd ⟨1, .data⟩ (by simp) rfl)
      exact opFieldA hK rfl (k := 1) (ev f18) (fun W => by kernel_rfl) rfl),
    (by
      intro Lq aq wq kq hd hj hlo hhi Kq hK
      rw [if_pos (wanted_none rfl)]
      have f19 := hj.val 2 19 rfl rfl (by simp) rfl (hd ⟨2, .data⟩ (by simp) rfl)
      have hj0 : Ext None_ w.drew wq := by
        have hk : kq = 0 ∨ kq = 1 ∨ kq = 2 := by (have : kq ≤ 2 := hhi; omega)
        rcases hk with rfl | rfl | rfl
        · exact hj.inv
        · exact hj.inv
        · exact hj.inv
      exact opLoad hK rfl (ev f19) Try.underlying56 rfl (Ext.cell ((Ext.refl None_ w).drew.trans0 hj0) c1 (fun a => a)) rfl),
    (by
      intro Lq aq wq kq hd hj hlo hhi Kq hK
      rw [if_pos (wanted_none rfl)]
      have f1 := hj.base 1 rfl rfl
      exact opMove hK rfl (ev f1) rfl),
    (by
      intro Lq aq wq kq hd hj hlo hhi Kq hK
      rw [if_pos (wanted_none rfl)]
      have f2 := hj.base 2 rfl rfl
      exact opMove hK rfl (ev f2) rfl),
    (by
      intro Lq aq wq kq hd hj hlo hhi Kq hK
      rw [if_pos (wanted_none rfl)]
      have f21 := hj.val 4 21 rfl rfl (by simp) rfl (hd ⟨4, .data⟩ (by simp) rfl)
      have f22 := hj.val 5 22 rfl rfl (by simp) rfl (hd ⟨5, .data⟩ (by simp) rfl)
      exact opBuild hK rfl (ps := #[(0, .int .i64 a), (1, .int .i64 b)]) (by simp [ev f21, ev f22]) (cells := #[.int .i64 a, .int .i64 b]) (by kernel_rfl) rfl),
    (by
      intro Lq aq wq kq hd hj hlo hhi Kq hK
      rw [if_pos (wanted_none rfl)]
      have f8 := hj.base 8 rfl rfl
      exact opMove hK rfl (ev f8) rfl),
    (by
      intro Lq aq wq kq hd hj hlo hhi Kq hK
      rw [if_pos (wanted_none rfl)]
      have f3 := hj.base 3 rfl rfl
      exact opMove hK rfl (ev f3) rfl),
    (by
      intro Lq aq wq kq hd hj hlo hhi Kq hK
      rw [if_pos (wanted_none rfl)]
      have f24 := hj.val 7 24 rfl rfl (by simp) rfl (hd ⟨7, .data⟩ (by simp) rfl)
      have f25 := hj.val 8 25 rfl rfl (by simp) rfl (hd ⟨8, .data⟩ (by simp) rfl)
      exact opSliceOp hK rfl (ev f24) rfl (congrArg some (ev f25)) rfl Try.underlying45 HC1.out rfl),
    (by
      intro Lq aq wq hd hj Kq hK
      rw [if_pos (wanted_none rfl)]
      have f26 := hj.val 9 26 rfl rfl (by simp) rfl (hd ⟨9, .data⟩ (by simp) rfl)
      exact wpAppM _ _ rfl (fun _ => False) (.slice none 0 0) 0 [] rfl (Own.nil _ _ _ _) A1 i c _ (ev f26) (by rw [msgsV_length _ _ HPT.out.1, List.length_take, HL.out]; omega) (HR1.out _ ((Ext.refl None_ w).drew.trans0 (hj.inv : Ext None_ w.drew wq))) (msgsV_one _ _) (by omega) (fun v' w' h1 h2 => hK v' w' ⟨Nat.le_refl _, fun _ => own_new (Ext.size ((Ext.refl None_ w).drew.trans0 (hj.inv : Ext None_ w.drew wq))) h1⟩ (Ext.trans0 hj.inv (h2.mono (fun k _ e => by simp [Value.ownBlock] at e))) (h2.mono (fun k _ e => by simp [Value.ownBlock] at e)))),
    (by
      intro Lq aq wq kq hd hj hlo hhi Kq hK
      rw [if_pos (wanted_none rfl)]
      have f8 := hj.base 8 rfl rfl
      exact opMove hK rfl (ev f8) rfl),
    (by
      intro Lq aq wq kq hd hj hlo hhi Kq hK
      rw [if_pos (wanted_none rfl)]
      have f3 := hj.base 3 rfl rfl
      exact opMove hK rfl (ev f3) rfl),
    (by
      intro Lq aq wq kq hd hj hlo hhi Kq hK
      rw [if_pos (wanted_none rfl)]
      have f29 := hj.val 12 29 rfl rfl (by simp) rfl (hd ⟨12, .data⟩ (by simp) rfl)
      exact opBin hK rfl (ev f29) rfl (guardInt _ _ _ _ _ _ _ _ _) (binAdd _ _ _ _ (IntWalk.i64_in _ (by omega))) rfl),
    (by
      intro Lq aq wq kq hd hj hlo hhi Kq hK
      rw [if_pos (wanted_none rfl)]
      have f28 := hj.val 11 28 rfl rfl (by simp) rfl (hd ⟨11, .data⟩ (by simp) rfl)
      have f30 := hj.val 13 30 rfl rfl (by simp) rfl (hd ⟨13, .data⟩ (by simp) rfl)
      exact opSliceOp hK rfl (ev f28) (congrArg some (ev f30)) rfl rfl Try.underlying45 HC2.out rfl),
    (by
      intro Lq aq wq hd hj Kq hK
      rw [if_pos (wanted_none rfl)]
      obtain ⟨u27, f27, g27⟩ := hj.at_ 10 27 rfl rfl (by simp) (hd ⟨10, .data⟩ (by simp) rfl)
      have f31 := hj.val 14 31 rfl rfl (by simp) rfl (hd ⟨14, .data⟩ (by simp) rfl)
      have ho := g27.2 (Nat.le_refl _)
      exact wpAppM _ _ rfl _ u27 i _ (ev f27) ho A2 (n - (i + 1)) (c - (i + 1)) _ (ev f31) (by rw [msgsV_length _ _ HPT.out.2, List.length_drop, HL.out]) (HR2.out _ ((Ext.refl None_ w).drew.trans0 (hj.inv : Ext None_ w.drew wq))) (msgsV_one _ _) (by omega) (fun v' w' h1 h2 => hK v' w' ⟨Nat.le_refl _, fun _ => own_grow (Ext.size ((Ext.refl None_ w).drew.trans0 (hj.inv : Ext None_ w.drew wq))) ho.blk (by omega) h1⟩ (Ext.trans hj.inv h2 (fun k hk e => absurd (ho.blk k e) (Nat.not_le.2 hk))) (h2.mono (fun k _ e => .inl ⟨rfl, ho.blk k e⟩)))),
    (by
      intro Lq aq wq hd hj Kq hK
      rw [if_pos (wanted_none rfl)]
      have f20 := hj.val 3 20 rfl rfl (by simp) rfl (hd ⟨3, .data⟩ (by simp) rfl)
      have f23 := hj.val 6 23 rfl rfl (by simp) rfl (hd ⟨6, .data⟩ (by simp) rfl)
      obtain ⟨u32, f32, g32⟩ := hj.at_ 15 32 rfl rfl (by simp) (hd ⟨15, .data⟩ (by simp) rfl)
      have ho := g32.2 (Nat.le_refl _)
      have hxq : Ext None_ w wq := ((Ext.refl None_ w).drew.trans0 (hj.inv : Ext None_ w.drew wq))
      obtain ⟨w2, hr, hm2, hx2⟩ := (HMW.out.ext0 hxq).put (by omega) uW HA.out HB.out u32
      exact opPutC hK rfl (ev f20) (ev f23) (ev f32) hr trivial (HFIN.out u32 wq w2 hxq ho hm2 hx2) (hx2.mono (fun k _ e => .inr ⟨rfl, e⟩))),
    trivial⟩ ?fin
  case fin =>
    intro vs wZ hI hg
    have HI : Hid (Left w wZ M C g (takeN N a b i) (m + 1)) := Lib.hid hI
    clear hI hg
    simp only [putAll, Nat.reduceAdd, Nat.zero_add]
    simp only [Act.put, List.setIfInBounds_toArray, List.set_cons_succ, List.set_cons_zero]
    go_wp2_with fail
    go_end0
    exact ⟨rfl, HI.out⟩
end Go.Proofs.Ythjabbheobpoeaa
