/- draylaw26.call, walked: kind 3. Written by gen_rp.py. -/
import Derived.Test.YthjabbheobpoeaaRo
set_option linter.unusedVariables false
set_option linter.unusedSimpArgs false
namespace Go.Proofs.Ythjabbheobpoeaa
open Go.RowKit B
theorem own_some {w : World} {ok : Nat → Prop} {A : Option Addr} {n c : Nat} {vs : List Value} {e : TypeId} (h : Own w e 2 ok (.slice A n c) n vs) (hn : 0 < n) : ∃ (gb : Nat) (cs : Array Value), A = some ⟨gb, 0, none⟩ ∧ Blk w gb cs e ∧ n * 2 ≤ cs.size := by
  rcases h.own.2 with ⟨_, hz⟩ | ⟨g', cap', cur', hv, _, hg, hnc, _, hcs, _⟩
  · omega
  · injection hv with hv h2 h3
    exact ⟨g', cur', hv, hg, by rw [hcs]; omega⟩
theorem own_cs {w : World} {ok : Nat → Prop} {gb n c : Nat} {vs : List Value} {e : TypeId} (h : Own w e 2 ok (.slice (some ⟨gb, 0, none⟩) n c) n vs) (hn : 0 < n) : ∃ cs, Blk w gb cs e ∧ n * 2 ≤ cs.size := by
  obtain ⟨g', cs, h1, h2, h3⟩ := own_some h hn
  injection h1 with h1
  injection h1 with h1
  subst h1
  exact ⟨cs, h2, h3⟩
set_option maxRecDepth 100000 in
set_option maxHeartbeats 8000000 in
theorem call3 {K : Nat → Prop} {g h : Nat} {N : NS} {m : Nat} (a b n : Int) (ha : I64 a) (hb : I64 b) (hn : I64 n) (A : Option Addr) (L c : Nat) (w : World) (t : TN K g h N N m w) : Calls Try.prog 19 #[.pointer (some ⟨g, 0, none⟩), .pointer (some ⟨h, 0, none⟩), .agg (askC 3 a b n A L c)] w fun e w' => e = .returned (.bool true) ∧ TN K g h (N) (N) (m) w' ∧ Ext (fun k => ¬ K k) w w' := by
  obtain ⟨M, C, M', C', tx⟩ := t
  have HM0 := Lib.hid (And.intro tx.2.1.clt tx.2.1.mlt)
  have HT := Lib.hid (tx.box (.cells (askC 3 a b n A L c) 47))
  clear tx
  have HD := Lib.hid (Twice_any g N M C m a b n ha hb hn _ HT.out.1)
  obtain ⟨⟨q, ok⟩, htw⟩ : ∃ x, x = twiceN N a b n := ⟨_, rfl⟩
  have HR := Lib.hid (fun (W : World) (M1 C1 : Nat → Prop) (hr : RNAt W M1 C1 h N) => rtwice_any h N M1 C1 a b n hn W hr)
  rw [← htw] at HD HR
  simp only at HD HR
  clear htw HM0
  by_cases hpos : 0 < q.es.length
  · have HPOS := Lib.hid hpos
    clear hpos
    go_enter Try.func19, Try.ntmps19
    go_wp2_with (first
      | (go_at_call 10; refine HD.out.mono ?_; rintro e w1 ⟨⟨A1, c1, rfl, ho⟩, hx1⟩; obtain ⟨gb, _, rfl, _⟩ := own_some ho HPOS.out; have t2 := HT.out.add (K1 := fun k => KB K w k ∨ (Value.slice (some ⟨gb, 0, none⟩) q.es.length c1).ownBlock = some k) (hx1.mono (fun _ _ e => e.elim)) (fun k hk => hk.imp id (fun e => ⟨ho.blk k e, ho.lt k e⟩)); have x1 : Ext (fun k => ¬ KB K w k) _ w1 := hx1.mono (fun _ _ e => e.elim); have HT2 := Lib.hid (t2.box (.cells (msgC msg0 none 0) 28)); have HX1 := Lib.hid x1; have HO := Lib.hid ho; clear hx1 t2 HD HT ho)
      | (refine wpList_store_blk rfl 28 (.tmp 16) (.tmp 125) rfl w1.heap.size (msgC q (some ⟨gb, 0, none⟩) c1) rfl rfl 28 (msgC msg0 none 0) (Blk.new w1 _ _) msgSize rfl rfl ?_; intro w2 hb2 hx2; have HT3 := Lib.hid (HT2.out.write (hx2.mono (fun _ _ e => .inr e))); have HB2 := Lib.hid hb2; have HX2 : Hid (Ext None_ w1 w2) := Lib.hid (((x0 w1 _).mono (fun _ _ e => e.elim)).trans hx2 (fun r hr e => by have e : r = w1.heap.size := e; omega)); have d1 := Ext.cell HX2.out (box_cell x1 1 _ rfl) (fun e => e); have d2 := Ext.cell HX2.out (box_cell x1 2 _ rfl) (fun e => e); have d3 := Ext.cell HX2.out (box_cell x1 3 _ rfl) (fun e => e); clear hb2 hx2 HT2 x1)
      | (go_at_call 30; refine (HR.out w2 M' C' HT3.out.2.1).mono ?_; rintro e w3 ⟨⟨A2, c2, rfl, hr2, hln, _⟩, hx3⟩; have HT4 := Lib.hid (HT3.out.ext0 hx3); have HX3 := Lib.hid hx3; have HR2 := Lib.hid hr2; have HB3 := Lib.hid (HB2.out.ext hx3 (fun e => e)); clear hx3 hr2 HT3 HR HB2)
      | (refine wpList_store_blk rfl 28 (.tmp 18) (.tmp 136) rfl w3.heap.size (msgC q A2 c2) rfl rfl 28 (msgC msg0 none 0) (Blk.new w3 _ _) msgSize rfl rfl ?_; intro w4 hb4 hx4; have HB4 := Lib.hid hb4; have HX4 : Hid (Ext None_ w3 w4) := Lib.hid (((x0 w3 _).mono (fun _ _ e => e.elim)).trans hx4 (fun r hr e => by have e : r = w3.heap.size := e; omega)); have HB3' := Lib.hid (HB3.out.ext HX4.out (fun a => a)); have HO4 := Lib.hid (((HO.out.ext0 HX2.out).ext0 HX3.out).ext0 HX4.out); clear hb4 hx4 HB3)
      | (refine wpList_load_row rfl 28 (.tmp 16) rfl w1.heap.size rfl 28 (msgC q (some ⟨gb, 0, none⟩) c1) (0, 0) _ HB3'.out Try.underlying28 rfl msgSize ?_)
      | (refine wpList_load_row rfl 28 (.tmp 18) rfl w3.heap.size rfl 28 (msgC q A2 c2) (0, 0) _ HB4.out Try.underlying28 rfl msgSize ?_)
      | (go_at_call 12; refine (Message_any q (some ⟨gb, 0, none⟩) A2 c1 c2 w4 (by obtain ⟨A', c', he, _, _, hrr⟩ := Own.slice HO4.out; injection he with he _ _; subst he; exact hrr) (Row.ext0 HR2.out HX4.out) hln).mono ?_; rintro e w5 ⟨rfl, hx⟩; have HX5 := Lib.hid hx; have HT5 := Lib.hid ((HT4.out.ext0 HX4.out).ext0 hx); have HB5 := Lib.hid (HB3'.out.ext hx (fun a => a)); have HO5 := Lib.hid (HO4.out.ext0 hx); have HXX := Lib.hid (HX1.out.trans0 (HX2.out.trans0 (HX3.out.trans0 (HX4.out.trans0 hx)))); clear hx HT4))
    clear d1 d2 d3
    have HNE : Hid (gb ≠ w1.heap.size) := Lib.hid (by have := HO.out.lt gb rfl; omega)
    have HGB : Hid (∀ k, k = gb → k < (w.alloc (.cells (askC 3 a b n A L c) 47)).heap.size → ¬ ¬ KB K w k → False) := Lib.hid (fun k e hk _ => by have := HO.out.blk gb rfl; omega)
    go_loopw [21] (fun v21 wr => ∃ i : Nat, v21 = .int .i64 i ∧ i ≤ q.es.length ∧ Hid (TNx (KB (fun k => KB K w k ∨ (Value.slice (some ⟨gb, 0, none⟩) q.es.length c1).ownBlock = some k) w1) g h N N m wr M C M' C') ∧ Hid (Blk wr w1.heap.size (msgC q (some ⟨gb, 0, none⟩) c1) 28) ∧ Hid (Ext (fun k => ¬ KB K w k) (w.alloc (.cells (askC 3 a b n A L c) 47)) wr) ∧ Hid (∃ cs, Blk wr gb cs 72 ∧ q.es.length * 2 ≤ cs.size)) (fun v21 _ => q.es.length - (intOf v21).toNat)
    case atStart => exact ⟨0, rfl, by omega, HT5, HB5, HXX, Lib.hid (own_cs HO5.out HPOS.out)⟩
    case round =>
      clear HT5 HB5 HXX HO5
      obtain ⟨i, rfl, hi, HTr, HBr, HXr, HE⟩ := hrel
      have k8 := Blk.cell HBr.out 8
      by_cases hlt : i < q.es.length
      · obtain ⟨cs, hbe, hsz⟩ := HE.out
        have HTH : Hid (wr.there gb (i * 2) 2) := Lib.hid (blk_there hbe _ _ (by omega))
        obtain ⟨wS, hwS⟩ : ∃ x, x = wr.setCells gb (i * 2) (#[Value.int .i64 (-3), Value.string ByteArray.empty] : Array Value).toList := ⟨_, rfl⟩
        have hkb : KB (fun k => KB K w k ∨ (Value.slice (some ⟨gb, 0, none⟩) q.es.length c1).ownBlock = some k) w1 gb := .inl (.inr rfl)
        have hxS : Ext (fun k => k = gb) wr wS := by rw [hwS]; exact ext_setCells (S := fun k => k = gb) rfl _ _ _
        have HTS := Lib.hid (HTr.out.write (hxS.mono (fun k _ e => by have e : k = gb := e; rw [e]; exact hkb)))
        have HES : Hid (∃ cs, Blk wS gb cs 72 ∧ q.es.length * 2 ≤ cs.size) := Lib.hid (by obtain ⟨cs', h1, h2⟩ := blk_setCells (#[Value.int .i64 (-3), Value.string ByteArray.empty] : Array Value).toList wr (i * 2) cs hbe; exact ⟨cs', by rw [hwS]; exact h1, by rw [h2]; exact hsz⟩)
        have HBS := Lib.hid (HBr.out.ext hxS (fun e => HNE.out e.symm))
        have HXS := Lib.hid (HXr.out.trans hxS (fun k hk e => by have e : k = gb := e; subst e; intro hKK; exact HGB.out _ rfl hk (fun h => h hKK)))
        have HWS := Lib.hid hwS
        clear hwS hxS hbe hsz hkb
        go_wp2_with (refine wpList_store_mid rfl 72 (.tmp 157) (.tmp 156) rfl gb (i * 2) #[Value.int .i64 (-3), Value.string ByteArray.empty] rfl rfl (by exact HTH.out) (by exact entSize) (by simp [Value.oneCell']) ?_; first | rw [← HWS.out] | (have hz := HWS.out; subst hz))
        go_roundw
        case rel => exact ⟨i + 1, by go_num, by omega, HTS, HBS, HXS, HES⟩
        case measure => simp [intOf]; omega
      · have hie : i = q.es.length := by omega
        have HIE := Lib.hid hie
        clear hie
        have hz : ¬ ((i : Int) < (q.es.length : Int)) := by omega
        go_wp2_with fail
        go_ret
        exact ⟨by simp, ⟨_, _, _, _, HTr.out.less (fun k hk => .inl (.inl (.inl hk)))⟩, ext_box HXr.out⟩
  · have HZ : Hid (q.es.length = 0) := Lib.hid (by omega)
    clear hpos
    go_enter Try.func19, Try.ntmps19
    go_wp2_with (first
      | (go_at_call 10; refine HD.out.mono ?_; rintro e w1 ⟨⟨A1, c1, rfl, ho⟩, hx1⟩; have t2 := HT.out.add (K1 := fun k => KB K w k ∨ (Value.slice A1 q.es.length c1).ownBlock = some k) (hx1.mono (fun _ _ e => e.elim)) (fun k hk => hk.imp id (fun e => ⟨ho.blk k e, ho.lt k e⟩)); have x1 : Ext (fun k => ¬ KB K w k) _ w1 := hx1.mono (fun _ _ e => e.elim); have HT2 := Lib.hid (t2.box (.cells (msgC msg0 none 0) 28)); have HX1 := Lib.hid x1; have HO := Lib.hid ho; clear hx1 t2 HD HT ho)
      | (refine wpList_store_blk rfl 28 (.tmp 16) (.tmp 125) rfl w1.heap.size (msgC q A1 c1) rfl rfl 28 (msgC msg0 none 0) (Blk.new w1 _ _) msgSize rfl rfl ?_; intro w2 hb2 hx2; have HT3 := Lib.hid (HT2.out.write (hx2.mono (fun _ _ e => .inr e))); have HB2 := Lib.hid hb2; have HX2 : Hid (Ext None_ w1 w2) := Lib.hid (((x0 w1 _).mono (fun _ _ e => e.elim)).trans hx2 (fun r hr e => by have e : r = w1.heap.size := e; omega)); have d1 := Ext.cell HX2.out (box_cell x1 1 _ rfl) (fun e => e); have d2 := Ext.cell HX2.out (box_cell x1 2 _ rfl) (fun e => e); have d3 := Ext.cell HX2.out (box_cell x1 3 _ rfl) (fun e => e); clear hb2 hx2 HT2 x1)
      | (go_at_call 30; refine (HR.out w2 M' C' HT3.out.2.1).mono ?_; rintro e w3 ⟨⟨A2, c2, rfl, hr2, hln, _⟩, hx3⟩; have HT4 := Lib.hid (HT3.out.ext0 hx3); have HX3 := Lib.hid hx3; have HR2 := Lib.hid hr2; have HB3 := Lib.hid (HB2.out.ext hx3 (fun e => e)); clear hx3 hr2 HT3 HR HB2)
      | (refine wpList_store_blk rfl 28 (.tmp 18) (.tmp 136) rfl w3.heap.size (msgC q A2 c2) rfl rfl 28 (msgC msg0 none 0) (Blk.new w3 _ _) msgSize rfl rfl ?_; intro w4 hb4 hx4; have HB4 := Lib.hid hb4; have HX4 : Hid (Ext None_ w3 w4) := Lib.hid (((x0 w3 _).mono (fun _ _ e => e.elim)).trans hx4 (fun r hr e => by have e : r = w3.heap.size := e; omega)); have HB3' := Lib.hid (HB3.out.ext HX4.out (fun a => a)); have HO4 := Lib.hid (((HO.out.ext0 HX2.out).ext0 HX3.out).ext0 HX4.out); clear hb4 hx4 HB3)
      | (refine wpList_load_row rfl 28 (.tmp 16) rfl w1.heap.size rfl 28 (msgC q A1 c1) (0, 0) _ HB3'.out Try.underlying28 rfl msgSize ?_)
      | (refine wpList_load_row rfl 28 (.tmp 18) rfl w3.heap.size rfl 28 (msgC q A2 c2) (0, 0) _ HB4.out Try.underlying28 rfl msgSize ?_)
      | (go_at_call 12; refine (Message_any q A1 A2 c1 c2 w4 (by obtain ⟨A', c', he, _, _, hrr⟩ := Own.slice HO4.out; injection he with he _ _; subst he; exact hrr) (Row.ext0 HR2.out HX4.out) hln).mono ?_; rintro e w5 ⟨rfl, hx⟩; have HX5 := Lib.hid hx; have HT5 := Lib.hid ((HT4.out.ext0 HX4.out).ext0 hx); have HB5 := Lib.hid (HB3'.out.ext hx (fun a => a)); have HO5 := Lib.hid (HO4.out.ext0 hx); have HXX := Lib.hid (HX1.out.trans0 (HX2.out.trans0 (HX3.out.trans0 (HX4.out.trans0 hx)))); clear hx HT4))
    clear d1 d2 d3
    go_loopw [21] (fun v21 wr => ∃ i : Nat, v21 = .int .i64 i ∧ i ≤ q.es.length ∧ Hid (TNx (KB (fun k => KB K w k ∨ (Value.slice A1 q.es.length c1).ownBlock = some k) w1) g h N N m wr M C M' C') ∧ Hid (Blk wr w1.heap.size (msgC q A1 c1) 28) ∧ Hid (Ext (fun k => ¬ KB K w k) (w.alloc (.cells (askC 3 a b n A L c) 47)) wr)) (fun v21 _ => q.es.length - (intOf v21).toNat)
    case atStart => exact ⟨0, rfl, by omega, HT5, HB5, HXX⟩
    case round =>
      clear HT5 HB5 HXX HO5
      obtain ⟨i, rfl, hi, HTr, HBr, HXr⟩ := hrel
      have k8 := Blk.cell HBr.out 8
      by_cases hlt : i < q.es.length
      · exact absurd hlt (by have := HZ.out; omega)
      · have hie : i = q.es.length := by omega
        have HIE := Lib.hid hie
        clear hie
        have hz : ¬ ((i : Int) < (q.es.length : Int)) := by omega
        go_wp2_with fail
        go_ret
        exact ⟨by simp, ⟨_, _, _, _, HTr.out.less (fun k hk => .inl (.inl (.inl hk)))⟩, ext_box HXr.out⟩
end Go.Proofs.Ythjabbheobpoeaa
