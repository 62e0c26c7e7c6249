/- draylaw26.call, walked: kind 1. Written by gen_rr.py. -/
import Derived.Test.YthjabbheobpoeaaRq
set_option linter.unusedVariables false
set_option linter.unusedSimpArgs false
namespace Go.Proofs.Ythjabbheobpoeaa
open Go.RowKit B
theorem ArgR.less {w : World} {S S1 : Nat → Prop} {ad : Addr} {l : List Msg} {pv : List (Option Addr × Nat)} (h : ArgR w S ad l pv) (hs : ∀ k, S1 k → S k) : ArgR w S1 ad l pv :=
  ⟨h.len, h.at_, fun i q p hq hp => by
    obtain ⟨a1, a2, a3⟩ := h.ents i q p hq hp
    exact ⟨a1, a2, fun ad e hl hk => a3 ad e hl (hs _ hk)⟩, fun hk => h.far (hs _ hk)⟩
theorem msg1_built : ∃ z, Try.prog.built 28 [(0, .int .i64 (-1))] = some z ∧ z.size = 10 ∧ z.all (·.oneCell') = true := by
  refine ⟨(msgC ⟨-1, 0, 0, 0, 0, 0, 0, false, [], ByteArray.empty⟩ none 0), ?_, ?_, ?_⟩
  · kernel_rfl
  · rfl
  · simp [Value.oneCell']
set_option maxRecDepth 100000 in
set_option maxHeartbeats 16000000 in
theorem call1 {K : Nat → Prop} {g h : Nat} {N : NS} {m : Nat} (a b n : Int) (ad : Addr) (c : Nat) (l : List Msg) (pv0 : List (Option Addr × Nat)) (hl : 0 < l.length) (hll : l.length ≤ 1353245080301) (hm : m + l.length + 1 < maxLen) (w : World) (harg : ArgR w (fun k => ¬ K k) ad l pv0) (hI : ∀ q ∈ l, I64 q.f ∧ I64 q.t) (t : TN K g h N N m w) : Calls Try.prog 19 #[.pointer (some ⟨g, 0, none⟩), .pointer (some ⟨h, 0, none⟩), .agg (askC 1 a b n (some ad) l.length c)] w fun e w' => e = .returned (.bool true) ∧ TN K g h (sendN N l) (sendN N l) (m + l.length) w' ∧ Ext (fun k => ¬ K k) w w' := by
  obtain ⟨M, C, M', C', tx⟩ := t
  have HT := Lib.hid (tx.box (.cells (askC 1 a b n (some ad) l.length c) 47))
  have HARG := Lib.hid harg
  have HI : Hid (∀ q ∈ l, I64 q.f ∧ I64 q.t ∧ q.es.length ≤ 5864062014805) := Lib.hid (fun q hq => by
    obtain ⟨i, hi⟩ := List.getElem?_of_mem hq
    obtain ⟨p, hp⟩ : ∃ p, pv0[i]? = some p := ⟨_, List.getElem?_eq_getElem (by rw [harg.len]; exact (List.getElem?_eq_some_iff.1 hi).1)⟩
    exact ⟨(hI q hq).1, (hI q hq).2, (harg.ents i q p hi hp).1⟩)
  clear tx harg hI
  obtain ⟨n0, hn0⟩ : ∃ n0, n0 = (w.alloc (.cells (askC 1 a b n (some ad) l.length c) 47)).heap.size := ⟨_, rfl⟩
  have HN0 := Lib.hid hn0
  have HW : Hid (w.heap.size < n0) := Lib.hid (by rw [hn0, size_alloc]; omega)
  clear hn0
  have HOW : Hid (∀ W : World, Own (W.alloc (.cells #[] 72)) 72 2 (fun k => W.heap.size ≤ k) (.slice (some ⟨W.heap.size, 0, none⟩) 0 0) 0 []) := Lib.hid (fun W => (Own.made (e := 72) (size := 2) W #[] 0 (by simp [maxLen]) rfl).mono (fun k _ e => by omega))
  go_enter Try.func19, Try.ntmps19
  go_wp2_with fail
  go_loopw [7, 8] (fun v7 v8 wr => ∃ i : Nat, v8 = .int .i64 i ∧ i ≤ l.length ∧ Hid (∃ pv, OwnMs n0 wr v7 (l.take i) pv) ∧ Hid (Ext None_ (w.alloc (.cells (askC 1 a b n (some ad) l.length c) 47)) wr)) (fun _ v8 _ => l.length - (intOf v8).toNat)
  case atStart => exact ⟨0, rfl, by omega, Lib.hid ⟨[], by rw [List.take_zero]; exact OwnMs.nil _ _⟩, Lib.hid (Ext.refl _ _)⟩
  case round =>
    obtain ⟨i, rfl, hi, ho, hx⟩ := hrel
    have e4 : wr.cell? ⟨w.heap.size, 4, none⟩ = some (.slice (some ad) l.length c) := Ext.cell hx.out (by rw [Blk.cell (Blk.new w _ _)]; rfl) (fun a => a)
    by_cases hlt : i < l.length
    · obtain ⟨q, hq⟩ : ∃ q, l[i]? = some q := ⟨_, List.getElem?_eq_getElem hlt⟩
      obtain ⟨⟨p1, p2⟩, hp⟩ : ∃ p, pv0[i]? = some p := ⟨_, List.getElem?_eq_getElem (by rw [HARG.out.len]; exact hlt)⟩
      obtain ⟨pv, hom⟩ := ho.out
      have hlen : (l.take i).length = i := by rw [List.length_take]; omega
      have HOM := Lib.hid hom
      have HX0 : Hid (Ext None_ w wr) := Lib.hid ((x0 w _).trans0 hx.out)
      have hat := HARG.out.at_ i q _ hq hp
      obtain ⟨hel, hrow, _⟩ := HARG.out.ents i q _ hq hp
      have HAT9 : Hid (∀ W, Ext None_ wr W → ∀ j v, (msgC q p1 p2).toList[j]? = some v → W.cell? ((ad.add (i * 10)).add j) = some v) := Lib.hid (fun W hx j v hj => (HX0.out.trans0 hx).cell (hat j v hj) (fun a => a))
      have HROW : Hid (∀ W, Ext None_ wr W → Row W p1 (entV q.es)) := Lib.hid (fun W hx => hrow.ext0 (HX0.out.trans0 hx))
      have HOO : Hid (∀ W, Ext None_ wr W → Own W 28 10 (fun k => n0 ≤ k) u7 i (msgsV (l.take i) pv)) := Lib.hid (fun W hx => by
        have := hom.2.1.ext0 hx
        rwa [hlen] at this)
      have HNW : Hid (n0 ≤ wr.heap.size) := Lib.hid (by rw [HN0.out]; exact hx.out.size)
      have HADD : Hid (∀ (wS w2 : World) (v' : Value) (A' : Option Addr) (c' : Nat), Ext None_ wr wS → Own wS 72 2 (fun k => wr.heap.size ≤ k) (.slice A' q.es.length c') q.es.length (entV q.es) → Own w2 28 10 (fun k => u7.ownBlock = some k ∨ wS.heap.size ≤ k) v' (i + 1) (msgsV (l.take i) pv ++ (msgC q A' c').toList) → Ext (fun k => u7.ownBlock = some k) wS w2 → (∃ pv, OwnMs n0 w2 v' (l.take (i + 1)) pv) ∧ Ext None_ (w.alloc (.cells (askC 1 a b n (some ad) l.length c) 47)) w2) := Lib.hid (fun wS w2 v' A' c' h1 h2 h3 h4 => by
        refine ⟨⟨pv ++ [(A', c')], ?_⟩, (hx.out.trans0 h1).trans h4 (fun k hk e => ?_)⟩
        · have ht : l.take (i + 1) = l.take i ++ [q] := by rw [List.take_add_one, hq]; rfl
          rw [ht]
          exact hom.add h1 HNW.out h2 (by rw [hlen]; exact h3) h4
        · have := hom.2.1.blk k e
          have := HN0.out
          omega)
      clear ho hq hp hom hlen hat hrow
      go_wp2_with (first
        | (refine wpList_load_adr rfl 28 (.tmp 36) rfl (ad.add (i * 10)) rfl (msgC q p1 p2).toList (HAT9.out _ (Ext.refl _ _)) Try.underlying28 rfl msgSize ?_; clear HAT9)
        | (refine wpList_store_blk rfl 28 (.tmp 9) (.tmp 37) rfl wr.heap.size (msgC q p1 p2) rfl rfl 28 (msgC msg0 none 0) (Blk.new wr _ _) msgSize rfl rfl ?_; intro wM hbM hxM; have HXM : Hid (Ext None_ wr wM) := Lib.hid ((x0 wr _).trans hxM (fun r hr e => by have e : r = wr.heap.size := e; omega)); have e8 : ∀ o, (wM.alloc o).cell? ⟨wr.heap.size, 8, none⟩ = some (.slice p1 q.es.length p2) := fun o => Ext.cell ((Ext.refl None_ wM).alloc o) (Blk.cell hbM 8) (fun a => a); have HBM := Lib.hid hbM; clear hbM hxM e4)
        | (at_builtin; refine wpList_app0 rfl (.tmp 38) (.tmp 40) 26 rfl 72 _ 2 24 Try.underlying26 infoEnt rfl (by decide) (by decide) _ wM.heap.size rfl (HOW.out wM) p1 q.es.length p2 (entV q.es) rfl (entV_length _) (HROW.out _ (HXM.out.trans0 (x0 wM _))) (entV_one _) (by omega) ?_; intro v3 w3 ho3 hx3; obtain ⟨A', c', rfl, _, _, _⟩ := Own.slice ho3; have HE3 : Hid (Own w3 72 2 (fun k => wM.heap.size ≤ k) (.slice A' q.es.length c') q.es.length (entV q.es)) := Lib.hid (ho3.mono (fun k _ h => by simp at h; omega)); have HX3 : Hid (Ext None_ wM w3) := Lib.hid ((x0 wM _).trans0 hx3); have hb3 := HBM.out.ext HX3.out (fun a => a); have k8 := Blk.cell hb3 8; have kf := Blk.frozen hb3; have HB3 := Lib.hid hb3; clear ho3 hx3 hb3 HROW)
        | (refine wpList_load_row rfl 28 (.tmp 9) rfl wr.heap.size rfl 28 (msgC q A' c') (0, 0) _ (HB3.out.set 8 (.slice A' q.es.length c')) Try.underlying28 rfl msgSize ?_; obtain ⟨wS, hwS⟩ : ∃ x, x = w3.setCell ⟨wr.heap.size, 8, none⟩ (.slice A' q.es.length c') := ⟨_, rfl⟩; rw [← hwS]; have hbl : wr.heap.size < wM.heap.size := HBM.out.lt; have hsetx : Ext (fun r => r = wr.heap.size) w3 wS := by rw [hwS]; exact (Ext.refl (fun r => r = wr.heap.size) w3).setCell (p := ⟨wr.heap.size, 8, none⟩) (Or.inl rfl) _
           have HXS : Hid (Ext None_ wr wS) := Lib.hid ((HXM.out.trans0 HX3.out).trans hsetx (fun r hr e => by have e : r = wr.heap.size := e; omega))
           have HES : Hid (Own wS 72 2 (fun k => wr.heap.size ≤ k) (.slice A' q.es.length c') q.es.length (entV q.es)) := Lib.hid ((HE3.out.ext hsetx (fun k hk e => by have e : k = wr.heap.size := e; have := HE3.out.blk k hk; omega)).mono (fun k _ h => by omega))
           clear hwS hsetx hbl k8 kf e8 HB3 HE3)
        | (refine wpList_mslice rfl (.tmp 44) rfl q A' c' rfl ?_)
        | (at_builtin; refine app rfl (.tmp 43) (.tmp 45) 45 rfl 28 _ 10 104 Try.underlying45 infoMsg rfl (by decide) (by decide) (fun k => n0 ≤ k) u7 i (msgsV (l.take i) pv) rfl (HOO.out _ (HXS.out.trans0 (x0 wS _))) (some ⟨wS.heap.size, 0, none⟩) 1 1 (msgC q A' c').toList rfl (msgC_len _ _ _) (Blk.new wS _ _).row (msgC_one _ _ _) (by omega) ?_; intro v6 w6 h6 x6; have HF := Lib.hid (HADD.out _ w6 v6 A' c' (HXS.out.trans0 (x0 wS _)) (HES.out.ext0 (x0 wS _)) h6 x6); clear h6 x6 HOO HES))
      go_roundw
      case rel => exact ⟨i + 1, by go_num, by omega, Lib.hid HF.out.1, Lib.hid HF.out.2⟩
      case measure => simp [intOf]; omega
    · have hie : i = l.length := by omega
      have hz : ¬ ((i : Int) < (l.length : Int)) := by omega
      obtain ⟨pv, hom⟩ := ho.out
      rw [hie, List.take_length] at hom
      have HIE := Lib.hid hie
      clear hie hlt ho
      obtain ⟨gs, cap, _, hu7, _⟩ := own_row10 hom.2.1 hl
      subst hu7
      obtain ⟨K1, hK1⟩ : ∃ K1 : Nat → Prop, K1 = fun k => KB K w k ∨ (n0 ≤ k ∧ k < wr.heap.size) := ⟨_, rfl⟩
      have HK1 : Hid (∀ k, KB K w k → K1 k) := Lib.hid (fun k hk => by rw [hK1]; exact .inl hk)
      have HK2 : Hid (∀ k, n0 ≤ k → k < wr.heap.size → K1 k) := Lib.hid (fun k h1 h2 => by rw [hK1]; exact .inr ⟨h1, h2⟩)
      have HT1 : Hid (TNx K1 g h N N m wr M C M' C') := Lib.hid (HT.out.add (hx.out.mono (fun _ _ e => e.elim)) (fun k hk => by
        rw [hK1] at hk
        rcases hk with hk | ⟨h1, h2⟩
        · exact .inl hk
        · rw [HN0.out] at h1
          exact .inr ⟨h1, h2⟩))
      obtain ⟨KN, hKN⟩ : ∃ KN : Nat → Prop, KN = fun k => n0 ≤ k ∧ k < wr.heap.size := ⟨_, rfl⟩
      have HKN : Hid (∀ k, KN k → n0 ≤ k ∧ K1 k) := Lib.hid (fun k hk => by rw [hKN] at hk; exact ⟨hk.1, HK2.out k hk.1 hk.2⟩)
      have HOR : Hid (OwnR wr gs KN l pv 0) := Lib.hid (by rw [hKN]; exact hom.rest hl)
      clear hKN
      have HGS : Hid (n0 ≤ gs ∧ K1 gs) := Lib.hid ⟨hom.2.1.blk gs rfl, HK2.out gs (hom.2.1.blk gs rfl) (hom.2.1.lt gs rfl)⟩
      have HAL : Hid (ArgL wr M gs l pv) := Lib.hid (hom.argL HI.out (fun k h1 h2 h3 => (HT1.out.2.2.2.1 k (HK2.out k h1 h2)).1 (.inl h3)))
      have HPV : Hid (∀ j, j < l.length → ∃ p, pv[j]? = some p) := Lib.hid (fun j hj => ⟨_, List.getElem?_eq_getElem (by rw [hom.1]; exact hj)⟩)
      clear hK1 hom HT
      go_wp2_with (first
        | (go_at_call 8; refine (Send_any g N M C m gs cap l pv hm hll _ HT1.out.1 HAL.out).mono ?_; rintro e w1 ⟨rfl, h1⟩; obtain ⟨M1, C1, t2, x1⟩ := HT1.out.left h1; have HT2 := Lib.hid t2; have HX1 := Lib.hid x1; have x1' : Ext (fun k => ¬ KB K w k) (w.alloc (.cells (askC 1 a b n (some ad) l.length c) 47)) w1 := (hx.out.mono (fun _ _ e => e.elim)).trans x1 (fun k _ e e2 => e (HK1.out k e2)); have d4 : w1.cell? ⟨w.heap.size, 4, none⟩ = some (.slice (some ad) l.length c) := box_cell x1' 4 _ rfl; have HXX := Lib.hid x1'; have HAR : Hid (ArgR w1 M' ad l pv0) := Lib.hid ((HARG.out.ext (((x0 w _).mono (fun _ _ e => e.elim)).trans x1' (fun k _ e e2 => e (.inl e2)))).less (fun k hk e => (t2.2.2.2.1 k (HK1.out k (.inl e))).2 (.inl hk))); clear h1 t2 x1 x1' HT1 HAL e4)
        | (go_at_call 28; refine (rsend_any h N M' C' ad c l pv0 hll w1 HT2.out.2.1 HAR.out).mono ?_; rintro e w2 ⟨rfl, h1⟩; obtain ⟨M2, C2, t3, x2⟩ := HT2.out.right h1; have HT3 := Lib.hid t3; have HX2 : Hid (Ext (fun k => ¬ KB K w k) (w.alloc (.cells (askC 1 a b n (some ad) l.length c) 47)) w2) := Lib.hid (HXX.out.trans x2 (fun k _ e e2 => e (HK1.out k e2))); have HOR2 := Lib.hid ((HOR.out.ext HX1.out (fun e => e HGS.out.2) (fun k hk e => e (HKN.out k hk).2)).ext x2 (fun e => e HGS.out.2) (fun k hk e => e (HKN.out k hk).2)); clear h1 t3 x2 HT2 HAR d4))
      clear hz
      have HKW : Hid (∀ k, n0 ≤ k → ¬ ¬ KB K w k → k < (w.alloc (.cells (askC 1 a b n (some ad) l.length c) 47)).heap.size → False) := Lib.hid (fun k h1 _ h2 => by have := HN0.out; omega)
      clear HX1 HXX HOR hm
      go_loopw [10] (fun v10 wr2 => ∃ i : Nat, v10 = .int .i64 i ∧ i ≤ l.length ∧ Hid (TNx K1 g h (sendN N l) (sendN N l) (m + l.length) wr2 M1 C1 M2 C2) ∧ Hid (Ext (fun k => ¬ KB K w k) (w.alloc (.cells (askC 1 a b n (some ad) l.length c) 47)) wr2) ∧ Hid (OwnR wr2 gs KN l pv i)) (fun v10 _ => l.length - (intOf v10).toNat)
      case atStart => exact ⟨0, rfl, by omega, HT3, HX2, HOR2⟩
      case round =>
        obtain ⟨j, rfl, hj, HTr, HXr, HOr⟩ := hrel
        by_cases hlj : j < l.length
        · obtain ⟨q, hq⟩ : ∃ q, l[j]? = some q := ⟨_, List.getElem?_eq_getElem hlj⟩
          have HQ := Lib.hid hq
          have hel := (HI.out q (List.mem_of_getElem? hq)).2.2
          clear hq
          go_wp2_with fail
          go_loopw [11] (fun v11 wr => ∃ k : Nat, v11 = .int .i64 k ∧ k ≤ q.es.length ∧ Hid (TNx K1 g h (sendN N l) (sendN N l) (m + l.length) wr M1 C1 M2 C2) ∧ Hid (Ext (fun k => ¬ KB K w k) (w.alloc (.cells (askC 1 a b n (some ad) l.length c) 47)) wr) ∧ Hid (OwnR wr gs KN l pv j)) (fun v11 _ => q.es.length - (intOf v11).toNat)
          case atStart => exact ⟨0, rfl, by omega, HTr, HXr, HOr⟩
          case round =>
            clear HTr HXr HOr
            obtain ⟨k, rfl, hk, HTr, HXr, HOr⟩ := hrel
            obtain ⟨cs, hbs, hcs, hrest⟩ := HOr.out
            obtain ⟨⟨p1, p2⟩, hp⟩ : ∃ p, pv[j]? = some p := HPV.out j hlj
            obtain ⟨e8, hent⟩ := hrest j q _ (Nat.le_refl _) HQ.out hp
            have k8 : wr.cell? ⟨gs, j * 10 + 8, none⟩ = some (.slice p1 q.es.length p2) := by rw [Blk.cell hbs]; exact e8
            by_cases hlk : k < q.es.length
            · obtain ⟨gb, ce, he, hne, hgb, hbe, hsz⟩ := hent (by omega)
              obtain ⟨hg1, hg2⟩ := HKN.out gb hgb
              simp only at he
              subst he
              have HTH : Hid (wr.there gb (k * 2) 2) := Lib.hid (blk_there hbe _ _ (by omega))
              obtain ⟨wS, hwS⟩ : ∃ x, x = wr.setCells gb (k * 2) (#[Value.int .i64 (-1), Value.string ByteArray.empty] : Array Value).toList := ⟨_, rfl⟩
              have hxS : Ext (fun k => k = gb) wr wS := by rw [hwS]; exact ext_setCells (S := fun k => k = gb) rfl _ _ _
              have HTS := Lib.hid (HTr.out.write (hxS.mono (fun k _ e => by have e : k = gb := e; rw [e]; exact hg2)))
              have HES := Lib.hid (HOr.out.ent gb (k * 2) (#[Value.int .i64 (-1), Value.string ByteArray.empty] : Array Value).toList hne)
              rw [← hwS] at HES
              have HXS := Lib.hid (HXr.out.trans hxS (fun k hk e => by have e : k = gb := e; subst e; intro hKK; exact HKW.out _ hg1 (fun h => h hKK) hk))
              have HWS := Lib.hid hwS
              clear hwS hxS hbe hsz hbs hcs hrest e8 hent hp
              go_wp2_with (refine wpList_store_mid rfl 72 (.tmp 77) (.tmp 76) rfl gb (k * 2) #[Value.int .i64 (-1), Value.string ByteArray.empty] rfl rfl (by exact HTH.out) (by exact entSize) (by simp [Value.oneCell']) ?_; first | rw [← HWS.out] | (have hz := HWS.out; subst hz))
              go_roundw
              case rel => exact ⟨k + 1, by go_num, by omega, HTS, HXS, HES⟩
              case measure => simp [intOf]; omega
            · have hz : ¬ ((k : Int) < (q.es.length : Int)) := by omega
              obtain ⟨z1, hb1, hs1, ho1⟩ := msg1_built
              have HB1 := Lib.hid (And.intro hb1 (And.intro hs1 ho1))
              have HTH : Hid (wr.there gs (j * 10) z1.size) := Lib.hid (blk_there hbs _ _ (by omega))
              obtain ⟨wS, hwS⟩ : ∃ x, x = wr.setCells gs (j * 10) z1.toList := ⟨_, rfl⟩
              have hxS : Ext (fun k => k = gs) wr wS := by rw [hwS]; exact ext_setCells (S := fun k => k = gs) rfl _ _ _
              have HTS := Lib.hid (HTr.out.write (hxS.mono (fun k _ e => by have e : k = gs := e; rw [e]; exact HGS.out.2)))
              have HES := Lib.hid (HOr.out.row z1.toList (by simpa using hs1))
              rw [← hwS] at HES
              have HXS := Lib.hid (HXr.out.trans hxS (fun k hk e => by have e : k = gs := e; subst e; intro hKK; exact HKW.out _ HGS.out.1 (fun h => h hKK) hk))
              have HWS := Lib.hid hwS
              clear hwS hxS hbs hcs hrest e8 hent hp hb1 hs1 ho1 HOr HXr HTr
              go_wp2_with (first
                | (refine wpList_bld rfl 28 #[(0, .const (.int .i64 (-1)))] rfl #[(0, .int .i64 (-1))] (by simp only [List.map_toArray, List.map_cons, List.map_nil]; rfl) z1 HB1.out.1 ?_)
                | (refine wpList_store_mid rfl 28 (.tmp 81) (.tmp 80) rfl gs (j * 10) z1 rfl rfl (by exact HTH.out) (by rw [HB1.out.2.1]; exact msgSize) (by exact HB1.out.2.2) ?_; rw [← HWS.out]))
              go_roundw
              case rel => exact ⟨j + 1, by go_num, by omega, HTS, HXS, HES⟩
              case measure => simp [intOf]; omega
        · have hje : j = l.length := by omega
          have HJE := Lib.hid hje
          clear hje
          have hz : ¬ ((j : Int) < (l.length : Int)) := by omega
          go_wp2_with fail
          go_ret
          exact ⟨rfl, ⟨_, _, _, _, HTr.out.less (fun k hk => HK1.out k (.inl hk))⟩, ext_box HXr.out⟩

set_option maxRecDepth 100000 in
set_option maxHeartbeats 4000000 in
theorem Send_none (g : Nat) (A : Option Addr) (c : Nat) (w : World) : Calls Try.prog 8 #[.pointer (some ⟨g, 0, none⟩), .slice A 0 c] w fun e w' => e = .returned (.tuple #[]) ∧ Ext None_ w w' := by
  go_enter Try.func8, Try.ntmps8
  go_wp2_with fail
  go_loopw [9] (fun v9 wr => v9 = .int .i64 0 ∧ Hid (Ext None_ w wr)) (fun v9 _ => 0)
  case atStart => exact ⟨rfl, Lib.hid (Ext.refl _ _)⟩
  case round =>
    obtain ⟨rfl, hx⟩ := hrel
    go_wp2_with fail
    go_end0
    exact ⟨rfl, hx.out⟩
set_option maxRecDepth 100000 in
set_option maxHeartbeats 4000000 in
theorem rsend_none (g : Nat) (A : Option Addr) (c : Nat) (w : World) : Calls Try.prog 28 #[.pointer (some ⟨g, 0, none⟩), .slice A 0 c] w fun e w' => e = .returned (.tuple #[]) ∧ Ext None_ w w' := by
  go_enter Try.func28, Try.ntmps28
  go_wp2_with fail
  go_loopw [4] (fun v4 wr => v4 = .int .i64 0 ∧ Hid (Ext None_ w wr)) (fun v4 _ => 0)
  case atStart => exact ⟨rfl, Lib.hid (Ext.refl _ _)⟩
  case round =>
    obtain ⟨rfl, hx⟩ := hrel
    go_wp2_with fail
    go_end0
    exact ⟨rfl, hx.out⟩
set_option maxRecDepth 100000 in
set_option maxHeartbeats 8000000 in
theorem call1e {K : Nat → Prop} {g h : Nat} {N : NS} {m : Nat} (a b n : Int) (A : Option Addr) (c : Nat) (w : World) (t : TN K g h N N m w) : Calls Try.prog 19 #[.pointer (some ⟨g, 0, none⟩), .pointer (some ⟨h, 0, none⟩), .agg (askC 1 a b n A 0 c)] w fun e w' => e = .returned (.bool true) ∧ TN K g h N N m w' ∧ Ext (fun k => ¬ K k) w w' := by
  have HT := Lib.hid t
  clear t
  go_enter Try.func19, Try.ntmps19
  go_wp2_with fail
  go_loopw [7, 8] (fun v7 v8 wr => v7 = .slice none 0 0 ∧ v8 = .int .i64 0 ∧ Hid (Ext None_ (w.alloc (.cells (askC 1 a b n A 0 c) 47)) wr)) (fun _ v8 _ => 0)
  case atStart => exact ⟨rfl, rfl, Lib.hid (Ext.refl _ _)⟩
  case round =>
    obtain ⟨rfl, rfl, hx⟩ := hrel
    have e4 : wr.cell? ⟨w.heap.size, 4, none⟩ = some (.slice A 0 c) := Ext.cell hx.out (by rw [Blk.cell (Blk.new w _ _)]; rfl) (fun a => a)
    go_wp2_with (first
      | (go_at_call 8; refine (Send_none g none 0 _).mono ?_; rintro e w1 ⟨rfl, h1⟩; have d4 := h1.cell e4 (fun a => a); have HX1 := Lib.hid (hx.out.trans0 h1); clear h1 e4)
      | (go_at_call 28; refine (rsend_none h A c _).mono ?_; rintro e w2 ⟨rfl, h1⟩; have HX2 := Lib.hid (HX1.out.trans0 h1); clear h1 d4))
    go_loopw [10] (fun v10 wr => v10 = .int .i64 0 ∧ Hid (Ext None_ (w.alloc (.cells (askC 1 a b n A 0 c) 47)) wr)) (fun v10 _ => 0)
    case atStart => exact ⟨rfl, HX2⟩
    case round =>
      obtain ⟨rfl, hx2⟩ := hrel
      go_wp2_with fail
      go_ret
      obtain ⟨M, C, M', C', tx⟩ := HT.out
      have hz := (x0 w _).trans0 hx2.out
      exact ⟨rfl, ⟨_, _, _, _, tx.ext0 hz⟩, hz.mono (fun _ _ e => e.elim)⟩
end Go.Proofs.Ythjabbheobpoeaa
