/- The document's net, walked: Send. Written by gen_rj.py. -/
import Derived.Test.YthjabbheobpoeaaRi
import Derived.Deep.QuietTactic
import Derived.BigQuiet
set_option linter.unusedVariables false
set_option linter.unusedSimpArgs false
namespace Go.Proofs.Ythjabbheobpoeaa
open Go.RowKit B
/-- append to a new slice that is empty: nothing that was there is written. -/
theorem wpApp0 {P : Program} {w : World} {o : Oper} {a : Act} {K : Act → World → Prop} {Q : Exit → Act → World → Prop} (s x : Operand) (t : TypeId)
    (ho : o.op = .call { callee := .builtin .append, args := #[s, x], argTypes := #[t, t] })
    (e : TypeId) (z : Value) (size bytes : Nat) (ht : P.underlying t = some (.slice e)) (hinfo : (P.info? e).map (fun i => (i.zero, i.size, i.bytes)) = some (some z, size, bytes)) (hzs : z.cells.size = size) (hsz : 0 < size) (hb0 : 0 < bytes)
    (ok : Nat → Prop) (b : Nat) (hs : a.eval s = .slice (some ⟨b, 0, none⟩) 0 0) (hown : Own w e size ok (.slice (some ⟨b, 0, none⟩) 0 0) 0 [])
    (A : Option Addr) (m c : Nat) (news : List Value) (hx : a.eval x = .slice A m c) (hl : news.length = m * size) (hnews : Row w A news) (h1 : ∀ u ∈ news, u.oneCell' = true)
    (hbytes : m * bytes ≤ 140737488355328)
    (h : ∀ v' w', Own w' e size (fun k => ok k ∨ w.heap.size ≤ k) v' m news → Ext None_ w w' → K (a.put o.dst v') w') : o.wp P a w K Q := by
  obtain ⟨i, hi, hzz⟩ := Option.map_eq_some_iff.1 hinfo
  simp only [Prod.mk.injEq] at hzz
  obtain ⟨hz, hsize, hby⟩ := hzz
  have hm : m ≤ 140737488355328 := Nat.le_trans (Nat.le_mul_of_pos_right _ hb0) hbytes
  by_cases h0 : m = 0
  · subst h0
    obtain rfl : news = [] := List.eq_nil_of_length_eq_zero (by simpa using hl)
    have hrun : (Builtin.append_ #[t, t] o.type #[.slice (some ⟨b, 0, none⟩) 0 0, .slice A 0 c]).run P w = .ok (.slice (some ⟨b, 0, none⟩) 0 0) w := by
      cases A <;> simp [Builtin.append_, run_underlying ht, sizeOf, typeInfo, hi, Builtin.lenOf, Builtin.firstCells, storeCells, loadCells, loadCellsFrom]
    unfold Oper.wp
    simp [execOp, ho, resolve, invoke, builtin, hs, hx, hrun, Result.andThen]
    exact h _ w (hown.mono (fun k _ h => .inl h)) (Ext.refl _ _)
  · have hlp : 0 < news.length := by rw [hl]; exact Nat.mul_pos (by omega) hsz
    obtain ⟨ad, rfl⟩ := hnews.some hlp
    subst hsize
    subst hby
    have hr := run_append_grow (P := P) w t o.type e i z ht hi hz ⟨b, 0, none⟩ 0 0 [] (by simp) (fun j v hj => by simp at hj) ad m c news hl (fun j v hj => by
      obtain ⟨ad', e', hc⟩ := hnews j v hj
      cases e'
      exact hc) (by omega) (by omega) (growslice_fits (by omega) (by simpa using hbytes))
    simp only [Nat.zero_add, Array.empty_append] at hr
    have hge := grownCap_ge w m 0 e
    have hcm : grownCap w m 0 e ≤ maxLen := grownCap_le_maxLen w m 0 e (by simp only [maxLen]; omega)
    unfold Oper.wp execOp
    simp only [ho, resolve, invoke, builtin, Sem.run_bind, Sem.run_pure, Result.andThen_ok, List.map_toArray, List.map_cons, List.map_nil, hs, hx, hr]
    refine h _ _ ⟨⟨hl, .inr ⟨w.heap.size, _, _, rfl, Nat.zero_le _, heap_alloc_new w.drew _, hge, hcm, ?_, ?_⟩⟩, fun k hk => ?_⟩ ((Ext.refl None_ w).drew.alloc _)
    · simp only [Array.size_append, List.size_toArray, size_zeroCells, hzs, hl, ← Nat.add_mul, List.length_nil, Nat.zero_add]
      congr 1
      omega
    · simp only [Array.toList_append, List.append_assoc, List.nil_append]
      rw [← hl]
      exact List.take_left
    · simp [Value.ownBlock] at hk
      exact .inr (by omega)
theorem wpList_app0 {P : Program} {w : World} {ops : Array Oper} {rest : List Oper} {o : Oper} {a : Act} {Q : Exit → Act → World → Prop} (hgd : o.guard = none) (s x : Operand) (t : TypeId)
    (ho : o.op = .call { callee := .builtin .append, args := #[s, x], argTypes := #[t, t] })
    (e : TypeId) (z : Value) (size bytes : Nat) (ht : P.underlying t = some (.slice e)) (hinfo : (P.info? e).map (fun i => (i.zero, i.size, i.bytes)) = some (some z, size, bytes)) (hzs : z.cells.size = size) (hsz : 0 < size) (hb0 : 0 < bytes)
    (ok : Nat → Prop) (b : Nat) (hs : a.eval s = .slice (some ⟨b, 0, none⟩) 0 0) (hown : Own w e size ok (.slice (some ⟨b, 0, none⟩) 0 0) 0 [])
    (A : Option Addr) (m c : Nat) (news : List Value) (hx : a.eval x = .slice A m c) (hl : news.length = m * size) (hnews : Row w A news) (h1 : ∀ u ∈ news, u.oneCell' = true)
    (hbytes : m * bytes ≤ 140737488355328)
    (h : ∀ v' w', Own w' e size (fun k => ok k ∨ w.heap.size ≤ k) v' m news → Ext None_ w w' → wpList P ops Q rest (a.put o.dst v') w') : wpList P ops Q (o :: rest) a w :=
  wpList_plain hgd fun _ hK => wpApp0 s x t ho e z size bytes ht hinfo hzs hsz hb0 ok b hs hown A m c news hx hl hnews h1 hbytes fun v' w' h1 h2 => hK _ _ (h v' w' h1 h2)
theorem opFieldH {P : Program} {o : Oper} {a : Act} {w : World} {K : Act → World → Prop} {Q : Exit → Act → World → Prop} {p : Value → World → Prop} (hK : ∀ v w', p v w' → Ext None_ w w' → K (a.put o.dst v) w') {s : TypeId} {x : Operand} {f : Nat} (ho : o.op = .fieldAddr s x f) {ad : Addr} {k : Nat} (hx : a.eval x = .pointer (some ad)) (hr : ∀ W : World, (Instr.fieldAt s (.pointer (some ad)) f).run P W = .ok (.pointer (some ⟨ad.block, ad.off + k, none⟩)) W) (hp : p (.pointer (some ⟨ad.block, ad.off + k, none⟩)) w) : o.wp P a w K Q :=
  opField hK ho hx hr hp
theorem add_fldH (a : Addr) (k : Nat) (h : 0 < k) : (⟨a.block, a.off + k, none⟩ : Addr) = a.add k := by
  unfold Addr.add
  rw [if_neg (by omega)]
/-- Messages handed in, anywhere in their block. -/
structure ArgR (w : World) (S : Nat → Prop) (ad : Addr) (l : List Msg) (pv : List (Option Addr × Nat)) : Prop where
  len : pv.length = l.length
  at_ : ∀ (i : Nat) (q : Msg) (p : Option Addr × Nat), l[i]? = some q → pv[i]? = some p → ∀ j v, (msgC q p.1 p.2).toList[j]? = some v → w.cell? ((ad.add (i * 10)).add j) = some v
  ents : ∀ (i : Nat) (q : Msg) (p : Option Addr × Nat), l[i]? = some q → pv[i]? = some p → q.es.length ≤ 5864062014805 ∧ Row w p.1 (entV q.es) ∧ ∀ ad, p.1 = some ad → 0 < q.es.length → ¬ S ad.block
  far : ¬ S ad.block
theorem ArgR.ext {w w' : World} {S : Nat → Prop} {ad : Addr} {l : List Msg} {pv : List (Option Addr × Nat)} (h : ArgR w S ad l pv) (hx : Ext S w w') : ArgR w' S ad l pv :=
  ⟨h.len, fun i q p hq hp j v hj => hx.cell (h.at_ i q p hq hp j v hj) (by rw [add_block, add_block]; exact h.far), fun i q p hq hp => by
    obtain ⟨a3, a4, a5⟩ := h.ents i q p hq hp
    exact ⟨a3, rowE a4 hx a5, a5⟩, h.far⟩
theorem ArgR.fld {w : World} {S : Nat → Prop} {ad : Addr} {l : List Msg} {pv : List (Option Addr × Nat)} (h : ArgR w S ad l pv) {i : Nat} {q : Msg} {p : Option Addr × Nat} (hq : l[i]? = some q) (hp : pv[i]? = some p) (k : Nat) (hk : 0 < k) (v : Value) (hv : (msgC q p.1 p.2).toList[k]? = some v) : w.cell? ⟨(ad.add (i * 10)).block, (ad.add (i * 10)).off + k, none⟩ = some v := by
  rw [add_fldH _ _ hk]
  exact h.at_ i q p hq hp k v hv
/-! ### the words of the region that appends a message -/
def SN (g : Nat) (v : Value) : Nat → Nat → Prop := fun j k => (j = 0 ∧ v.ownBlock = some k) ∨ (j = 1 ∧ k = g)
def cNs (g : Nat) (v : Value) (q : Msg) (A : Option Addr) (c : Nat) : CG (SN g v) := cR 0 0 (fun u w => ∃ b : Nat, u = .slice (some ⟨b, 0, none⟩) 1 1 ∧ Row w (some ⟨b, 0, none⟩) (msgC q A c).toList) (fun _ _ _ ⟨b, h1, h2⟩ hx => ⟨b, h1, h2.ext0 hx⟩) (fun k h1 h2 => by omega)
def cNa (g : Nat) (v : Value) (w9 : World) (n : Nat) (xs : List Value) : CG (SN g v) := cR 1 1 (fun u w => Own w 28 10 (fun k => v.ownBlock = some k ∨ w9.heap.size ≤ k) u n xs) (fun _ _ _ h hx => h.ext0 hx) (fun k h1 h2 => by omega)
set_option maxRecDepth 100000 in
set_option maxHeartbeats 16000000 in
theorem rsend_any (g : Nat) (N : NS) (M C : Nat → Prop) (ad : Addr) (c : Nat) (l : List Msg) (pv0 : List (Option Addr × Nat)) (hll : l.length ≤ 1353245080301) (w : World) (h : RNAt w M C g N) (harg : ArgR w M ad l pv0) : Calls Try.prog 28 #[.pointer (some ⟨g, 0, none⟩), .slice (some ad) l.length c] w fun e w' => e = .returned (.tuple #[]) ∧ RLeftN w w' M C g (sendN N l) := by
  have HARG := Lib.hid harg
  have HL0 : Hid (RLeftN w w M C g (sendN N (l.take 0))) := Lib.hid (by rw [List.take_zero]; exact RLeftN.same h (Ext.refl _ _))
  clear h harg
  go_enter Try.func28, Try.ntmps28
  go_wp2_with fail
  go_loopw [4] (fun v4 wr => ∃ i : Nat, v4 = .int .i64 i ∧ i ≤ l.length ∧ Hid (RLeftN w wr M C g (sendN N (l.take i)))) (fun v4 _ => l.length - (intOf v4).toNat)
  case atStart => exact ⟨0, rfl, by omega, HL0⟩
  case round =>
    obtain ⟨i, rfl, hi, hleft⟩ := hrel
    by_cases hlt : i < l.length
    · obtain ⟨q, hq⟩ : ∃ q, l[i]? = some q := ⟨_, List.getElem?_eq_getElem hlt⟩
      obtain ⟨⟨p1, p2⟩, hp⟩ : ∃ p, pv0[i]? = some p := ⟨_, List.getElem?_eq_getElem (by rw [HARG.out.len]; exact hlt)⟩
      obtain ⟨M', C', hn', hxr, hM', hC'⟩ := hleft.out
      obtain ⟨N', hN'⟩ : ∃ N', N' = sendN N (l.take i) := ⟨_, rfl⟩
      rw [← hN'] at hn'
      have har := HARG.out.ext hxr
      obtain ⟨hel, hrow, hfar⟩ := har.ents i q _ hq hp
      have hs1 : sendN N (l.take (i + 1)) = send1 N' q := by rw [hN']; exact sendN_succ N l i q hq
      obtain ⟨fa, hfa⟩ : ∃ fa, fa = q.f := ⟨_, rfl⟩
      obtain ⟨ta, hta⟩ : ∃ ta, ta = q.t := ⟨_, rfl⟩
      have e1 : wr.cell? ⟨(ad.add (i * 10)).block, (ad.add (i * 10)).off + 1, none⟩ = some (.int .i64 fa) := har.fld hq hp 1 (by omega) _ (by rw [hfa]; rfl)
      have e2 : wr.cell? ⟨(ad.add (i * 10)).block, (ad.add (i * 10)).off + 2, none⟩ = some (.int .i64 ta) := har.fld hq hp 2 (by omega) _ (by rw [hta]; rfl)
      have hat := har.at_ i q _ hq hp
      have HAT9 : Hid (∀ W, Ext None_ wr W → ∀ j v, (msgC q p1 p2).toList[j]? = some v → W.cell? ((ad.add (i * 10)).add j) = some v) := Lib.hid (fun W hx j v hj => hx.cell (hat j v hj) (fun a => a))
      have HROW : Hid (∀ W, Ext None_ wr W → Row W p1 (entV q.es)) := Lib.hid (fun W hx => hrow.ext0 hx)
      have HN' := Lib.hid hn'
      have HJ : Hid (∀ W, RLeftN wr W M' C' g (send1 N' q) → RLeftN w W M C g (sendN N (l.take (i + 1)))) := Lib.hid (fun W h3 => by rw [hs1]; exact RLeftN.after h3 hxr hM' hC')
      have HSK0 : Hid (send1 N' q = N' → ∀ W, Ext None_ wr W → RLeftN w W M C g (sendN N (l.take (i + 1)))) := Lib.hid (fun h1 W hx => HJ.out W (by rw [h1]; exact RLeftN.same (HN'.out.ext0 hx) (hx.mono (fun _ _ e => e.elim))))
      clear hq hp hxr hM' hC' hN' har hrow hfar hs1 HL0 hat
      cases hth : thereB N' fa ta with
      | false =>
        have HSK := Lib.hid (HSK0.out (by unfold send1; rw [if_neg (fun h => by rw [← hfa, ← hta, hth] at h; exact absurd h.1 (by decide))]))
        have HLK : Hid (∀ W, Ext None_ wr W → Calls Try.prog 37 #[.pointer (some ⟨g, 0, none⟩), .int .i64 fa, .int .i64 ta] W fun e w' => e = .returned (.bool false) ∧ W = w') := Lib.hid (fun W hx => hth ▸ rlink_any g N' M' C' fa ta W (HN'.out.ext0 hx))
        clear hn' hth hfa hta
        go_wp2_with fail
        go_quiet (fail)
        rename_i nq
        obtain ⟨w9, hw9⟩ : ∃ w9, w9 = wr.drewN nq := ⟨_, rfl⟩
        have hxx : Ext None_ wr w9 := by rw [hw9]; exact (Ext.refl None_ wr).drewN _
        rw [← hw9]
        have X := Lib.hid hxx
        clear hxx e1 e2 hw9
        go_wp2_with fail
        refine (HLK.out _ X.out).mono ?_
        rintro e w9' ⟨rfl, rfl⟩
        have HL9 := Lib.hid (HSK.out w9 X.out)
        go_wp2_with fail
        go_roundw
        case rel => exact ⟨i + 1, by go_num, by omega, HL9⟩
        case measure => simp [intOf]; omega
      | true =>
        obtain ⟨x, y, rfl, rfl, hx7, hy7⟩ := there_nat hn'.nn.2 hth
        obtain ⟨A, c1', c1, c2, hqa⟩ := hn'.asks hx7 hy7
        have hlen := hn'.len x y
        obtain ⟨n, hn⟩ : ∃ n, n = (N'.wait x y).length := ⟨_, rfl⟩
        rw [← hn] at c1 hlen
        have HLK : Hid (∀ W, Ext None_ wr W → Calls Try.prog 37 #[.pointer (some ⟨g, 0, none⟩), .int .i64 x, .int .i64 y] W fun e w' => e = .returned (.bool true) ∧ W = w') := Lib.hid (fun W hx => hth ▸ rlink_any g N' M' C' x y W (HN'.out.ext0 hx))
        by_cases hc0 : N'.cut x y = 0
        · by_cases hl64 : n < 64
          · have HSEND : Hid (thereB N' x y = true ∧ N'.cut x y = 0 ∧ (N'.wait x y).length < 64) := Lib.hid ⟨hth, hc0, by rw [← hn]; exact hl64⟩
            rw [hc0] at c2
            replace c2 : wr.cell? ⟨g, 50 + x * 7 + y, none⟩ = some (.bool false) := c2
            obtain ⟨lw, hlw⟩ : ∃ lw, lw = N'.wait x y := ⟨_, rfl⟩
            obtain ⟨pv, hpv, hown, hent⟩ := hqa
            rw [← hn, ← hlw] at hown
            have hrM := hown.blk
            have HQA := Lib.hid (And.intro hpv (And.intro hent hrM))
            have HOR := Lib.hid hown
            have HN := Lib.hid hn
            have HLW := Lib.hid hlw
            have HFT := Lib.hid (And.intro hfa hta)
            have HC1 := Lib.hid c1
            clear hn' hth hc0 hn hlw hpv hown hent hrM hfa hta
            go_wp2_with fail
            go_quiet (fail)
            rename_i nq
            obtain ⟨w9, hw9⟩ : ∃ w9, w9 = wr.drewN nq := ⟨_, rfl⟩
            have hxx : Ext None_ wr w9 := by rw [hw9]; exact (Ext.refl None_ wr).drewN _
            rw [← hw9]
            have X := Lib.hid hxx
            have d2 := hxx.cell c2 (fun a => a)
            have d1 := hxx.cell c1 (fun a => a)
            have HOW : Hid (∀ W : World, Own (W.alloc (.cells #[] 72)) 72 2 (fun k => W.heap.size ≤ k) (.slice (some ⟨W.heap.size, 0, none⟩) 0 0) 0 []) := Lib.hid (fun W => (Own.made (e := 72) (size := 2) W #[] 0 (by simp [maxLen]) rfl).mono (fun k _ e => by omega))
            clear hxx e1 e2 hw9
            go_wp2_with fail
            refine (HLK.out _ X.out).mono ?_
            rintro e w9' ⟨rfl, rfl⟩
            go_wp2_with (first
                | (refine wpList_load_adr rfl 28 (.tmp 53) rfl (ad.add (i * 10)) rfl (msgC q p1 p2).toList (HAT9.out _ X.out) Try.underlying28 rfl msgSize ?_)
                | (refine wpList_store_blk rfl 28 (.tmp 7) (.tmp 54) rfl w9.heap.size (msgC q p1 p2) rfl rfl 28 (msgC msg0 none 0) (Blk.new w9 _ _) msgSize rfl rfl ?_; intro wM hbM hxM; have HXM : Hid (Ext None_ w9 wM) := Lib.hid ((x0 w9 _).trans hxM (fun r hr e => by have e : r = w9.heap.size := e; omega)); have e8 : ∀ o, (wM.alloc o).cell? ⟨w9.heap.size, 8, none⟩ = some (.slice p1 q.es.length p2) := fun o => Ext.cell ((Ext.refl None_ wM).alloc o) (Blk.cell hbM 8) (fun a => a); have HBM := Lib.hid hbM; clear hbM hxM)
                | (at_builtin; refine wpList_app0 rfl (.tmp 55) (.tmp 57) 26 rfl 72 _ 2 24 Try.underlying26 infoEnt rfl (by decide) (by decide) _ wM.heap.size rfl (HOW.out wM) p1 q.es.length p2 (entV q.es) rfl (entV_length _) (HROW.out _ ((X.out.trans0 HXM.out).trans0 (x0 wM _))) (entV_one _) (by omega) ?_; intro v3 w3 ho3 hx3; obtain ⟨A', c', rfl, _, _, _⟩ := Own.slice ho3; have HE3 : Hid (Own w3 72 2 (fun k => wM.heap.size ≤ k) (.slice A' q.es.length c') q.es.length (entV q.es)) := Lib.hid (ho3.mono (fun k _ h => by simp at h; omega)); have HX3 : Hid (Ext None_ wM w3) := Lib.hid ((x0 wM _).trans0 hx3); have hb3 := HBM.out.ext HX3.out (fun a => a); have k8 := Blk.cell hb3 8; have kf := Blk.frozen hb3; have HB3 := Lib.hid hb3; clear ho3 hx3 hb3))
            obtain ⟨wS, hwS⟩ : ∃ x, x = w3.setCell ⟨w9.heap.size, 8, none⟩ (.slice A' q.es.length c') := ⟨_, rfl⟩
            rw [← hwS]
            have hbl : w9.heap.size < wM.heap.size := HBM.out.lt
            have hsetx : Ext (fun r => r = w9.heap.size) w3 wS := by rw [hwS]; exact (Ext.refl (fun r => r = w9.heap.size) w3).setCell (p := ⟨w9.heap.size, 8, none⟩) (Or.inl rfl) _
            have HXS : Hid (Ext None_ wr wS) := Lib.hid (((X.out.trans0 HXM.out).trans0 HX3.out).trans hsetx (fun r hr e => by have e : r = w9.heap.size := e; have := X.out.size; omega))
            have HES : Hid (Own wS 72 2 (fun k => wr.heap.size ≤ k) (.slice A' q.es.length c') q.es.length (entV q.es)) := Lib.hid ((HE3.out.ext hsetx (fun k hk e => by have e : k = w9.heap.size := e; have := HE3.out.blk k hk; omega)).mono (fun k _ h => by have := X.out.size; omega))
            have HBS : Hid (Blk wS w9.heap.size (msgC q A' c') 28) := Lib.hid (by rw [hwS]; exact HB3.out.set 8 _)
            clear hwS hsetx hbl
            obtain ⟨bm, hbm⟩ : ∃ x, x = w9.heap.size := ⟨_, rfl⟩
            rw [← hbm] at HBS ⊢
            have HOS := Lib.hid (HOR.out.ext0 HXS.out)
            have s1 := Ext.cell HXS.out HC1.out (fun a => a)
            have HFIN : Hid (∀ (u : Value) (wq : World), Ext (fun k => (Value.slice A n c1').ownBlock = some k) wS wq → Own wq 28 10 (fun k => (Value.slice A n c1').ownBlock = some k ∨ wS.heap.size ≤ k) u (n + 1) (msgsV lw pv ++ (msgC q A' c').toList) → RLeftN wr (wq.setCell ⟨g, 1 + x * 7 + y, none⟩ u) M' C' g (send1 N' q) ∧ (wq.cell? ⟨g, 1 + x * 7 + y, none⟩).isSome = true ∧ wq.frozen? ⟨g, 1 + x * 7 + y, none⟩ = false) := Lib.hid (by
              intro u wq hxq ho
              obtain ⟨hpv, hent, hrM⟩ := HQA.out
              rw [HLW.out] at ho
              exact rsend_fin HN'.out hx7 hy7 HFT.out.1.symm HFT.out.2.symm HSEND.out hel HC1.out HN.out hpv hrM hent HXS.out ho HES.out hxq)
            clear hbm k8 kf d1 d2 e8 c1 c2
            refine wp_region_chain [13, 18] [(0, 1), (0, 1), (0, 1), (0, 0), (0, 0), (0, 0), (0, 0), (0, 0), (0, 0), (0, 0), (0, 0), (0, 0), (0, 0), (0, 1), (0, 1), (0, 1), (0, 1), (0, 1), (1, 2)] (SN g (.slice A n c1')) [⟨fun W => Ext None_ wS W, fun _ _ h hx => h.trans0 hx⟩, ⟨fun W => Ext (fun k => (Value.slice A n c1').ownBlock = some k) wS W, fun _ _ h hx => h.trans0 hx⟩, ⟨fun W => RLeftN wr W M' C' g (send1 N' q), fun _ _ h hx => h.trans0 hx⟩] [cv _, cv _, cv _, cv _, cv _, cv _, cv _, cv _, cv (.pointer (some ⟨g, 1 + x * 7, none⟩)), cv (.pointer (some ⟨g, 1 + x * 7 + y, none⟩)), cv (.slice A n c1'), cv (.agg (msgC q A' c')), cNs g (.slice A n c1') q A' c', cNa g (.slice A n c1') wS (n + 1) (msgsV lw pv ++ (msgC q A' c').toList), cv _, cv _, cv (.pointer (some ⟨g, 1 + x * 7, none⟩)), cv (.pointer (some ⟨g, 1 + x * 7 + y, none⟩)), cAny] (by kernel_rfl) rfl rfl rfl rfl rfl rfl rfl rfl (((Ext.refl None_ wS).drew : Ext None_ wS wS.drew)) ⟨
              (by
                intro Lq aq wq kq hd hj hlo hhi Kq hK
                rw [if_pos (wanted_none rfl)]
                have f0 := hj.base 0 rfl rfl
                exact opMove hK rfl (ev f0) rfl),
              (by
                intro Lq aq wq kq hd hj hlo hhi Kq hK
                rw [if_pos (wanted_none rfl)]
                have f5 := hj.base 5 rfl rfl
                exact opMove hK rfl (ev f5) rfl),
              (by
                intro Lq aq wq kq hd hj hlo hhi Kq hK
                rw [if_pos (wanted_none rfl)]
                have f6 := hj.base 6 rfl rfl
                exact opMove hK rfl (ev f6) rfl),
              (by
                intro Lq aq wq kq hd hj hlo hhi Kq hK
                rw [if_pos (wanted_none rfl)]
                have f0 := hj.base 0 rfl rfl
                exact opMove hK rfl (ev f0) rfl),
              (by
                intro Lq aq wq kq hd hj hlo hhi Kq hK
                rw [if_pos (wanted_none rfl)]
                have f5 := hj.base 5 rfl rfl
                exact opMove hK rfl (ev f5) rfl),
              (by
                intro Lq aq wq kq hd hj hlo hhi Kq hK
                rw [if_pos (wanted_none rfl)]
                have f6 := hj.base 6 rfl rfl
                exact opMove hK rfl (ev f6) rfl),
              (by
                intro Lq aq wq kq hd hj hlo hhi Kq hK
                rw [if_pos (wanted_none rfl)]
                have f63 := hj.val 3 63 rfl rfl (by simp) rfl (hd ⟨3, .data⟩ (by simp) rfl)
                exact opNil hK rfl (ev f63) rfl),
              (by
                intro Lq aq wq kq hd hj hlo hhi Kq hK
                rw [if_pos (wanted_none rfl)]
                have f66 := hj.val 6 66 rfl rfl (by simp) rfl (hd ⟨6, .data⟩ (by simp) rfl)
                exact opFieldA hK rfl (k := 1) (ev f66) (fun W => by kernel_rfl) rfl),
              (by
                intro Lq aq wq kq hd hj hlo hhi Kq hK
                rw [if_pos (wanted_none rfl)]
                have f67 := hj.val 7 67 rfl rfl (by simp) rfl (hd ⟨7, .data⟩ (by simp) rfl)
                have f64 := hj.val 4 64 rfl rfl (by simp) rfl (hd ⟨4, .data⟩ (by simp) rfl)
                exact opIndexArr7 hK rfl (j := 1 + x * 7) (sz := 7) (len := 7) (off := 1) (ev f67) (ev f64) Try.underlying65 (by kernel_rfl) (by omega) (by omega) (by simp <;> omega) rfl),
              (by
                intro Lq aq wq kq hd hj hlo hhi Kq hK
                rw [if_pos (wanted_none rfl)]
                have f68 := hj.val 8 68 rfl rfl (by simp) rfl (hd ⟨8, .data⟩ (by simp) rfl)
                have f65 := hj.val 5 65 rfl rfl (by simp) rfl (hd ⟨5, .data⟩ (by simp) rfl)
                exact opIndexArr7 hK rfl (j := 1 + x * 7 + y) (sz := 1) (len := 7) (off := 1 + x * 7) (ev f68) (ev f65) Try.underlying64 (by kernel_rfl) (by omega) (by omega) (by simp <;> omega) rfl),
              (by
                intro Lq aq wq kq hd hj hlo hhi Kq hK
                rw [if_pos (wanted_none rfl)]
                have f69 := hj.val 9 69 rfl rfl (by simp) rfl (hd ⟨9, .data⟩ (by simp) rfl)
                have hj0 : Ext None_ wS wq := by
                  obtain rfl : kq = 0 := Nat.le_antisymm hhi (Nat.zero_le _)
                  exact hj.inv
                exact opLoad hK rfl (ev f69) Try.underlying45 rfl (Ext.cell hj0 s1 (fun a => a)) rfl),
              (by
                intro Lq aq wq kq hd hj hlo hhi Kq hK
                rw [if_pos (wanted_none rfl)]
                have f7 := hj.base 7 rfl rfl
                have hj0 : Ext None_ wS wq := by
                  obtain rfl : kq = 0 := Nat.le_antisymm hhi (Nat.zero_le _)
                  exact hj.inv
                exact opLoadMid hK rfl bm 0 (ev f7) (msgC q A' c').toList (blk_range (HBS.out.ext hj0 (fun a => a))) Try.underlying28 rfl msgSize rfl),
              (by
                intro Lq aq wq kq hd hj hlo hhi Kq hK
                rw [if_pos (wanted_none rfl)]
                have f71 := hj.val 11 71 rfl rfl (by simp) rfl (hd ⟨11, .data⟩ (by simp) rfl)
                have hj0 : Ext None_ wS wq := by
                  obtain rfl : kq = 0 := Nat.le_antisymm hhi (Nat.zero_le _)
                  exact hj.inv
                exact opSlice hK rfl (ps := #[(0, .agg (msgC q A' c'))]) (by simp [ev f71]) (msg_slice q A' c') ⟨Nat.zero_le _, fun _ => ⟨wq.heap.size, rfl, (Blk.new wq _ _).row⟩⟩),
              (by
                intro Lq aq wq hd hj Kq hK
                rw [if_pos (wanted_none rfl)]
                have f70 := hj.val 10 70 rfl rfl (by simp) rfl (hd ⟨10, .data⟩ (by simp) rfl)
                obtain ⟨u72, f72, g72⟩ := hj.at_ 12 72 rfl rfl (by simp) (hd ⟨12, .data⟩ (by simp) rfl)
                obtain ⟨b, rfl, hrw⟩ := g72.2 (Nat.le_refl _)
                have hxq : Ext None_ wS wq := hj.inv
                exact wpAppM _ _ rfl M' (.slice A n c1') n (msgsV lw pv) (ev f70) (HOS.out.ext0 hxq) (some ⟨b, 0, none⟩) 1 1 (msgC q A' c').toList (ev f72) (msgC_len _ _ _) hrw (msgC_one _ _ _) (by omega) (fun v' w' h1 h2 => hK v' w' ⟨Nat.le_refl _, fun _ => h1.mono (fun r _ e => e.imp id (fun e => Nat.le_trans (Ext.size hxq) e))⟩ ((Ext.mono hxq (fun _ _ e => e.elim)).trans h2 (fun _ _ e => e)) (h2.mono (fun k _ e => .inl ⟨rfl, e⟩)))),
              (by
                intro Lq aq wq kq hd hj hlo hhi Kq hK
                rw [if_pos (wanted_none rfl)]
                have f60 := hj.val 0 60 rfl rfl (by simp) rfl (hd ⟨0, .data⟩ (by simp) rfl)
                exact opNil hK rfl (ev f60) rfl),
              (by
                intro Lq aq wq kq hd hj hlo hhi Kq hK
                rw [if_pos (wanted_none rfl)]
                have f74 := hj.val 14 74 rfl rfl (by simp) rfl (hd ⟨14, .data⟩ (by simp) rfl)
                exact opFieldA hK rfl (k := 1) (ev f74) (fun W => by kernel_rfl) rfl),
              (by
                intro Lq aq wq kq hd hj hlo hhi Kq hK
                rw [if_pos (wanted_none rfl)]
                have f75 := hj.val 15 75 rfl rfl (by simp) rfl (hd ⟨15, .data⟩ (by simp) rfl)
                have f61 := hj.val 1 61 rfl rfl (by simp) rfl (hd ⟨1, .data⟩ (by simp) rfl)
                exact opIndexArr7 hK rfl (j := 1 + x * 7) (sz := 7) (len := 7) (off := 1) (ev f75) (ev f61) Try.underlying65 (by kernel_rfl) (by omega) (by omega) (by simp <;> omega) rfl),
              (by
                intro Lq aq wq kq hd hj hlo hhi Kq hK
                rw [if_pos (wanted_none rfl)]
                have f76 := hj.val 16 76 rfl rfl (by simp) rfl (hd ⟨16, .data⟩ (by simp) rfl)
                have f62 := hj.val 2 62 rfl rfl (by simp) rfl (hd ⟨2, .data⟩ (by simp) rfl)
                exact opIndexArr7 hK rfl (j := 1 + x * 7 + y) (sz := 1) (len := 7) (off := 1 + x * 7) (ev f76) (ev f62) Try.underlying64 (by kernel_rfl) (by omega) (by omega) (by simp <;> omega) rfl),
              (by
                intro Lq aq wq hd hj Kq hK
                rw [if_pos (wanted_none rfl)]
                have f77 := hj.val 17 77 rfl rfl (by simp) rfl (hd ⟨17, .data⟩ (by simp) rfl)
                obtain ⟨u73, f73, g73⟩ := hj.at_ 13 73 rfl rfl (by simp) (hd ⟨13, .data⟩ (by simp) rfl)
                have ho := g73.2 (Nat.le_refl _)
                have hxq : Ext (fun k => (Value.slice A n c1').ownBlock = some k) wS wq := hj.inv
                obtain ⟨q1, q2, q3⟩ := HFIN.out u73 wq hxq ho
                obtain ⟨A9, c9, e9, _⟩ := Own.slice ho
                exact opStoreC hK rfl (ev f77) (ev f73) (by rw [e9]; rfl) (by rw [e9]; rfl) (by kernel_rfl) q2 q3 trivial q1 ((Ext.refl _ _).setCell (.inl (.inr ⟨rfl, rfl⟩)) _)),
              trivial⟩ ?fin
            case fin =>
              intro vs wZ hI hg
              have HL9 := Lib.hid (HJ.out wZ hI)
              clear hI hg s1
              simp only [putAll, Nat.reduceAdd, Nat.zero_add]
              simp only [Act.put, List.setIfInBounds_toArray, List.set_cons_succ, List.set_cons_zero]
              go_wp2_with fail
              go_roundw
              case rel => exact ⟨i + 1, by go_num, by omega, HL9⟩
              case measure => simp [intOf]; omega
          · have HSK := Lib.hid (HSK0.out (by unfold send1; rw [if_neg (fun h => by
              rw [← hfa, ← hta, ← hn] at h
              exact hl64 h.2.2)]))
            rw [hc0] at c2
            replace c2 : wr.cell? ⟨g, 50 + x * 7 + y, none⟩ = some (.bool false) := c2
            clear hn' hth hc0 hn hfa hta hqa
            go_wp2_with fail
            go_quiet (fail)
            rename_i nq
            obtain ⟨w9, hw9⟩ : ∃ w9, w9 = wr.drewN nq := ⟨_, rfl⟩
            have hxx : Ext None_ wr w9 := by rw [hw9]; exact (Ext.refl None_ wr).drewN _
            rw [← hw9]
            have X := Lib.hid hxx
            have d2 := hxx.cell c2 (fun a => a)
            have d1 := hxx.cell c1 (fun a => a)
            clear hxx e1 e2 hw9
            go_wp2_with fail
            refine (HLK.out _ X.out).mono ?_
            rintro e w9' ⟨rfl, rfl⟩
            have HL9 := Lib.hid (HSK.out w9 X.out)
            go_wp2_with fail
            go_roundw
            case rel => exact ⟨i + 1, by go_num, by omega, HL9⟩
            case measure => simp [intOf]; omega
        · have HSK := Lib.hid (HSK0.out (by unfold send1; rw [if_neg (fun h => by
            rw [← hfa, ← hta] at h
            exact hc0 h.2.1)]))
          replace c2 : wr.cell? ⟨g, 50 + x * 7 + y, none⟩ = some (.bool true) := by rw [c2, decide_eq_true hc0]
          clear hn' hth hc0 hn hfa hta hqa c1
          go_wp2_with fail
          go_quiet (fail)
          rename_i nq
          obtain ⟨w9, hw9⟩ : ∃ w9, w9 = wr.drewN nq := ⟨_, rfl⟩
          have hxx : Ext None_ wr w9 := by rw [hw9]; exact (Ext.refl None_ wr).drewN _
          rw [← hw9]
          have X := Lib.hid hxx
          have d2 := hxx.cell c2 (fun a => a)
          clear hxx e1 e2 hw9
          go_wp2_with fail
          refine (HLK.out _ X.out).mono ?_
          rintro e w9' ⟨rfl, rfl⟩
          have HL9 := Lib.hid (HSK.out w9 X.out)
          go_wp2_with fail
          go_roundw
          case rel => exact ⟨i + 1, by go_num, by omega, HL9⟩
          case measure => simp [intOf]; omega
    · have hie : i = l.length := by omega
      subst hie
      go_wp2_with fail
      go_end0
      refine ⟨rfl, ?_⟩
      have := hleft.out
      rwa [List.take_length] at this
end Go.Proofs.Ythjabbheobpoeaa
