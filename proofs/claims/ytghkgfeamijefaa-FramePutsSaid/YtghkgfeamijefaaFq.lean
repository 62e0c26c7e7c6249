/- draylaw21: FramePuts, walked. Written by gen_fp.py. -/
import Derived.Test.YtghkgfeamijefaaFp
set_option linter.unusedVariables false
set_option linter.unusedSimpArgs false
namespace Go.Proofs.Ytghkgfeamijefaa
open Go.RowKit B
theorem own_blk8 {w : World} {ok : Nat → Prop} {v : Value} {l : List Int} (h : OwnB w ok v l) (hn : 0 < l.length) : ∃ (g cap : Nat) (cs : Array Value), v = .slice (some ⟨g, 0, none⟩) l.length cap ∧ Blk w g cs 5 ∧ l.length ≤ cs.size ∧ ∀ j, j < l.length → ∃ x, cs[j]? = some (.int .u8 x) := by
  rcases Own.own h |>.2 with ⟨_, hz⟩ | ⟨g', cap', cur', hv, _, hg, hnc, _, hcs, ht⟩
  · omega
  · refine ⟨g', cap', cur', hv, hg, by rw [hcs]; omega, fun j hj => ?_⟩
    have h2 : (B8 l)[j]? = some (.int .u8 l[j]) := by simp [B8, List.getElem?_eq_getElem hj]
    rw [← ht, List.getElem?_take] at h2
    split at h2
    · rw [Array.getElem?_toList] at h2; exact ⟨_, h2⟩
    · cases h2
theorem sameWK (A1 : Option Addr) (c1 : Nat) (l : List Int) (n : Nat) (hn : l.length = n) (A2 : Option Addr) (c2 : Nat) (w : World) (h1 : Row w A1 (B8 l)) (h2 : Row w A2 (B8 l)) (hl : n ≤ 200000000000000) :
    Calls Try.prog 25 #[.slice A1 n c1, .slice A2 n c2] w fun e w' => e = .returned (.bool true) ∧ Ext None_ w w' := by
  subst hn
  exact (sameW_any A1 c1 l A2 c2 l w h1 h2 hl hl).mono fun e w' ⟨h3, h4⟩ => ⟨h3.trans (by simp), h4⟩
theorem putF_len (b p : List Int) : (putF b p).length ≤ b.length + 16392 := by
  unfold putF
  split
  · simp
  · rw [List.length_append, frameS_len]; omega
set_option maxRecDepth 100000 in
set_option maxHeartbeats 16000000 in
theorem FramePuts_any {A : Option Addr} {c : Nat} (b : List Int) {A2 : Option Addr} {c2 : Nat} (p : List Int) {w : World} (hr1 : Row w A (B8 b)) (hlb : b.length ≤ 140737488351232) (hr2 : Row w A2 (B8 p)) (hlp : p.length ≤ 140737488351232) (hb : Byt p) : Calls Try.prog 14 #[.slice A b.length c, .slice A2 p.length c2] w fun e w' => e = .returned (.bool true) ∧ Ext None_ w w' := by
  have HR1 := Lib.hid hr1
  have HR2 := Lib.hid hr2
  have HB := Lib.hid hb
  obtain ⟨L, hL⟩ : ∃ L, L = putF b p := ⟨_, rfl⟩
  obtain ⟨n, hn⟩ : ∃ n, L.length = n := ⟨_, rfl⟩
  have hnl : n ≤ 200000000000000 := by have := putF_len b p; rw [← hn, hL]; omega
  have HLL := Lib.hid hL
  have HN := Lib.hid hn
  have K0 : Hid True := Lib.hid trivial
  have K1 : Hid True := Lib.hid trivial
  clear hr1 hr2 hb hL hn
  by_cases hpos : 0 < n
  · have HPOS := Lib.hid hpos
    clear hpos
    go_enter Try.func14, Try.ntmps14
    go_wp2_with (first
      | (go_at_call 35; have _k := K0.out; clear _k; refine (roomyK A c b 31 _ HR1.out (by omega)).mono ?_; rintro e w0 ⟨g0, rfl, hg, hblk, hx⟩; have HX0 := Lib.hid hx; have HF0 := Lib.hid hblk; have HCUT0 := Lib.hid (fun W => cut_to0 g0 (b.length + 80) (b.length + 80) b.length (by omega) W); have HG0 := Lib.hid hg; clear hblk hx hg K0)
      | (go_at_call 35; have _k := K1.out; clear _k; refine (roomyK A2 c2 p 32 _ (HR2.out.ext0 HX0.out) (by omega)).mono ?_; rintro e w1 ⟨g1, rfl, hg, hblk, hx⟩; have HX1 := Lib.hid (HX0.out.trans0 hx); have HF1 := Lib.hid hblk; have HF01 := Lib.hid (HF0.out.ext hx (fun a => a)); have HCUT1 := Lib.hid (fun W => cut_to0 g1 (p.length + 80) (p.length + 80) p.length (by omega) W); have HG1 := Lib.hid (And.intro (Nat.le_trans HX0.out.size hg) hblk.lt); have HG01 : Hid (w.heap.size ≤ g0 ∧ g0 < w1.heap.size) := Lib.hid ⟨HG0.out, Nat.lt_of_lt_of_le HF0.out.lt hx.size⟩; clear hblk hx hg K1 HF0 HX0 HG0))
    have HPUT : Hid (∀ W, Ext None_ w1 W → Calls Try.prog 47 #[.slice (some ⟨g0, 0, none⟩) b.length (b.length + 80), .slice (some ⟨g1, 0, none⟩) p.length (p.length + 80)] W fun e w' => ∃ v', e = .returned v' ∧ OwnB w' (fun k => w1.heap.size ≤ k) v' L ∧ Ext None_ W w') := Lib.hid (fun W hW => (putW_any (some ⟨g0, 0, none⟩) (b.length + 80) b (some ⟨g1, 0, none⟩) (p.length + 80) p W ((full_row HF01.out).2.ext0 hW) ((full_row HF1.out).2.ext0 hW) HB.out hlb hlp).mono fun e w' ⟨v, h1, h2, h3⟩ => ⟨v, h1, by rw [HLL.out]; exact OwnB.mono h2 (fun k _ hk => Nat.le_trans hW.size hk), h3⟩)
    refine wp_region_mem [sv _, sv _, sv _, sv (.slice (some ⟨g0, 0, none⟩) b.length (b.length + 80)), sv _, sv _, sv _, sv (.slice (some ⟨g1, 0, none⟩) p.length (p.length + 80)), sB (fun k => w1.heap.size ≤ k) L, sB (fun k => w1.heap.size ≤ k) L] (by kernel_rfl) rfl rfl rfl rfl ⟨
      (by
        intro Lq aq wq hd hj Kq hK
        rw [if_pos (wanted_none rfl)]
        have f5 := hj.base 5 rfl rfl
        exact opMove hK rfl (ev f5) rfl),
      (by
        intro Lq aq wq hd hj Kq hK
        rw [if_pos (wanted_none rfl)]
        have f0 := hj.base 0 rfl rfl
        exact opMove hK rfl (ev f0) rfl),
      (by
        intro Lq aq wq hd hj Kq hK
        rw [if_pos (wanted_none rfl)]
        have f14 := hj.val 1 14 rfl rfl (by simp) rfl (hd ⟨1, .data⟩ (by simp) rfl)
        exact opLen hK rfl (ev f14) (by kernel_rfl) rfl),
      (by
        intro Lq aq wq hd hj Kq hK
        rw [if_pos (wanted_none rfl)]
        have f13 := hj.val 0 13 rfl rfl (by simp) rfl (hd ⟨0, .data⟩ (by simp) rfl)
        have f15 := hj.val 2 15 rfl rfl (by simp) rfl (hd ⟨2, .data⟩ (by simp) rfl)
        exact opSliceOp hK rfl (ev f13) rfl (congrArg some (ev f15)) rfl Try.underlying22 HCUT0.out rfl),
      (by
        intro Lq aq wq hd hj Kq hK
        rw [if_pos (wanted_none rfl)]
        have f6 := hj.base 6 rfl rfl
        exact opMove hK rfl (ev f6) rfl),
      (by
        intro Lq aq wq hd hj Kq hK
        rw [if_pos (wanted_none rfl)]
        have f1 := hj.base 1 rfl rfl
        exact opMove hK rfl (ev f1) rfl),
      (by
        intro Lq aq wq hd hj Kq hK
        rw [if_pos (wanted_none rfl)]
        have f18 := hj.val 5 18 rfl rfl (by simp) rfl (hd ⟨5, .data⟩ (by simp) rfl)
        exact opLen hK rfl (ev f18) (by kernel_rfl) rfl),
      (by
        intro Lq aq wq hd hj Kq hK
        rw [if_pos (wanted_none rfl)]
        have f17 := hj.val 4 17 rfl rfl (by simp) rfl (hd ⟨4, .data⟩ (by simp) rfl)
        have f19 := hj.val 6 19 rfl rfl (by simp) rfl (hd ⟨6, .data⟩ (by simp) rfl)
        exact opSliceOp hK rfl (ev f17) rfl (congrArg some (ev f19)) rfl Try.underlying22 HCUT1.out rfl),
      (by
        intro Lq aq wq hd hj Kq hK
        rw [if_pos (wanted_none rfl)]
        have f16 := hj.val 3 16 rfl rfl (by simp) rfl (hd ⟨3, .data⟩ (by simp) rfl)
        have f20 := hj.val 7 20 rfl rfl (by simp) rfl (hd ⟨7, .data⟩ (by simp) rfl)
        exact opCall hK Try.func47 (by kernel_rfl) rfl (args := #[.slice (some ⟨g0, 0, none⟩) b.length (b.length + 80), .slice (some ⟨g1, 0, none⟩) p.length (p.length + 80)]) (by simp [ev f16, ev f20]) ((HPUT.out wq ((Ext.refl None_ _).drew.trans0 hj.ext)).mono fun e w' ⟨v, h1, h2, h3⟩ => ⟨v, h1, h2, h3⟩)),
      (by
        intro Lq aq wq hd hj Kq hK
        rw [if_pos (wanted_none rfl)]
        obtain ⟨u21, f21, g21⟩ := hj.at_ 8 21 rfl rfl (by simp) (hd ⟨8, .data⟩ (by simp) rfl)
        exact opAssign hK rfl (ev f21) g21),
      trivial⟩ ?fin
    case fin =>
      intro vs w2 hx hg
      have h9 : OwnB w2 (fun k => w1.heap.size ≤ k) (vs 9) L := hg 9 (by decide)
      obtain ⟨ga, ca, _, hva, _⟩ := own_blk8 h9 (by rw [HN.out]; exact HPOS.out)
      rw [HN.out] at hva
      have v9 : vs 9 = _ := hva
      rw [hva] at h9
      have hxx := (Ext.refl None_ w1).drew.trans0 hx
      have HX2 := Lib.hid (HX1.out.trans0 hxx)
      have HO2 := Lib.hid h9
      have HF2 := Lib.hid (HF01.out.ext hxx (fun a => a))
      have HF12 := Lib.hid (HF1.out.ext hxx (fun a => a))
      clear h9 hva hxx hx hg HPUT HCUT0 HCUT1 HX1 HF01 HF1
      simp only [putAll, v9, Nat.reduceAdd, Nat.zero_add]
      simp only [Act.put, List.setIfInBounds_toArray, List.set_cons_succ, List.set_cons_zero]
      clear v9
      go_wp2_with (first
        | (go_at_call 48; refine (rframe_any A c b A2 c2 p _ (HR1.out.ext0 HX2.out) (HR2.out.ext0 HX2.out) HB.out hlb hlp).mono ?_; rintro e w3 ⟨vr, rfl, ho, hx⟩; rw [← HLL.out] at ho; obtain ⟨Ar, cr, rfl, hrr⟩ := own_sl ho; have HRR := Lib.hid hrr; have HX3 := Lib.hid (HX2.out.trans0 hx); have HO3 := Lib.hid (OwnB.ext0 HO2.out hx); have HF3 := Lib.hid (HF2.out.ext hx (fun a => a)); have HF13 := Lib.hid (HF12.out.ext hx (fun a => a)); clear hrr ho hx HX2 HO2 HF2 HF12; rw [HN.out])
        | (go_at_call 25; refine (sameWK (some ⟨ga, 0, none⟩) ca L n HN.out Ar cr _ (own_row HO3.out) HRR.out hnl).mono ?_; rintro e w4 ⟨rfl, hx⟩; have HX4 := Lib.hid (HX3.out.trans0 hx); have HO4 := Lib.hid (OwnB.ext0 HO3.out hx); have HF4 := Lib.hid (HF3.out.ext hx (fun a => a)); have HF14 := Lib.hid (HF13.out.ext hx (fun a => a)); clear hx HX3 HO3 HF3 HF13 HRR))
      obtain ⟨ga', cap', cs, he, hbl, hsz, hcell⟩ := own_blk8 HO4.out (by rw [HN.out]; exact HPOS.out)
      injection he with he _ _
      injection he with he
      injection he with he
      subst he
      have HGA : Hid (w1.heap.size ≤ ga) := Lib.hid (HO4.out.blk ga rfl)
      have HL4 : Hid (∃ cs : Array Value, Blk w4 ga cs 5 ∧ n ≤ cs.size ∧ ∀ j, j < n → ∃ x, cs[j]? = some (.int .u8 x)) := Lib.hid ⟨cs, hbl, by rw [← HN.out]; exact hsz, fun j hj => hcell j (by rw [HN.out]; exact hj)⟩
      clear hbl hsz hcell HO4
      go_loopw [8] (fun v8 wr => ∃ i : Nat, v8 = .int .i64 i ∧ i ≤ n ∧ Hid (∃ cs : Array Value, Blk wr ga cs 5 ∧ n ≤ cs.size ∧ ∀ j, j < n → ∃ x, cs[j]? = some (.int .u8 x)) ∧ Hid (Ext (fun k => k = ga) w4 wr)) (fun v8 _ => n - (intOf v8).toNat)
      case atStart => exact ⟨0, rfl, by omega, HL4, Lib.hid (Ext.refl _ _)⟩
      case round =>
        clear HL4
        obtain ⟨i, rfl, hi, hh, hx⟩ := hrel
        by_cases hlt : i < n
        · obtain ⟨cs, hbl, hsz, hcell⟩ := hh.out
          obtain ⟨x, hxe⟩ := hcell i hlt
          have ci := Blk.cell hbl i
          rw [hxe] at ci
          have fi := Blk.frozen hbl i
          have HB9 := Lib.hid hbl
          have HC9 := Lib.hid hcell
          clear hbl hxe hcell
          go_wp2_with fail
          go_roundw
          case rel =>
            refine ⟨i + 1, by go_num, by omega, Lib.hid ⟨_, HB9.out.set i _, by simpa using hsz, fun j hj => ?_⟩, Lib.hid (hx.out.setCell (.inl rfl) _)⟩
            by_cases e : j = i
            · subst e
              exact ⟨_, by rw [Array.getElem?_setIfInBounds_self]; rw [if_pos (by omega)]⟩
            · rw [Array.getElem?_setIfInBounds_ne (fun e2 => e e2.symm)]
              exact HC9.out j hj
          case measure => simp [intOf]; omega
        · have hie : i = n := by omega
          have HIE := Lib.hid hie
          have hz : ¬ ((i : Int) < (n : Int)) := by omega
          have hxw : Ext None_ w wr := HX4.out.trans hx.out (fun k hk e => by have e : k = ga := e; have := HGA.out; have := HG01.out; omega)
          have HE0 := Lib.hid (HF4.out.ext hx.out (fun e => by have e : g0 = ga := e; have := HGA.out; have := HG01.out; omega))
          have HE2 := Lib.hid (HF14.out.ext hx.out (fun e => by have e : g1 = ga := e; have := HGA.out; have := HG1.out; omega))
          have HE1 := Lib.hid (HR1.out.ext0 hxw)
          have HE3 := Lib.hid (HR2.out.ext0 hxw)
          have HXE := Lib.hid hxw
          have K0 : Hid True := Lib.hid trivial
          have K1 : Hid True := Lib.hid trivial
          clear hie hxw HF4 HF14 hh hx HX4
          go_wp2_with (first
            | (go_at_call 39; have _k := K0.out; clear _k; refine (intactK g0 A c b 31 _ HE0.out HE1.out (by omega)).mono ?_; rintro e w5 ⟨rfl, hx⟩; have HE2' := Lib.hid (HE2.out.ext hx (fun a => a)); have HE3' := Lib.hid (HE3.out.ext0 hx); have HXE' := Lib.hid (HXE.out.trans0 hx); clear hx K0)
            | (go_at_call 39; have _k := K1.out; clear _k; refine (intactK g1 A2 c2 p 32 _ HE2'.out HE3'.out (by omega)).mono ?_; rintro e w6 ⟨rfl, hx⟩; have HXF := Lib.hid (HXE'.out.trans0 hx); clear hx K1)
            | (go_at_call 46; refine (FrameRuns_any _).mono ?_; rintro e w7 ⟨rfl, hx⟩; have HXG := Lib.hid (HXF.out.trans0 hx); clear hx HXF))
          go_ret
          exact ⟨rfl, HXG.out⟩
  · obtain rfl : n = 0 := by omega
    clear hpos
    go_enter Try.func14, Try.ntmps14
    go_wp2_with (first
      | (go_at_call 35; have _k := K0.out; clear _k; refine (roomyK A c b 31 _ HR1.out (by omega)).mono ?_; rintro e w0 ⟨g0, rfl, hg, hblk, hx⟩; have HX0 := Lib.hid hx; have HF0 := Lib.hid hblk; have HCUT0 := Lib.hid (fun W => cut_to0 g0 (b.length + 80) (b.length + 80) b.length (by omega) W); have HG0 := Lib.hid hg; clear hblk hx hg K0)
      | (go_at_call 35; have _k := K1.out; clear _k; refine (roomyK A2 c2 p 32 _ (HR2.out.ext0 HX0.out) (by omega)).mono ?_; rintro e w1 ⟨g1, rfl, hg, hblk, hx⟩; have HX1 := Lib.hid (HX0.out.trans0 hx); have HF1 := Lib.hid hblk; have HF01 := Lib.hid (HF0.out.ext hx (fun a => a)); have HCUT1 := Lib.hid (fun W => cut_to0 g1 (p.length + 80) (p.length + 80) p.length (by omega) W); have HG1 := Lib.hid (And.intro (Nat.le_trans HX0.out.size hg) hblk.lt); have HG01 : Hid (w.heap.size ≤ g0 ∧ g0 < w1.heap.size) := Lib.hid ⟨HG0.out, Nat.lt_of_lt_of_le HF0.out.lt hx.size⟩; clear hblk hx hg K1 HF0 HX0 HG0))
    have HPUT : Hid (∀ W, Ext None_ w1 W → Calls Try.prog 47 #[.slice (some ⟨g0, 0, none⟩) b.length (b.length + 80), .slice (some ⟨g1, 0, none⟩) p.length (p.length + 80)] W fun e w' => ∃ v', e = .returned v' ∧ OwnB w' (fun k => w1.heap.size ≤ k) v' L ∧ Ext None_ W w') := Lib.hid (fun W hW => (putW_any (some ⟨g0, 0, none⟩) (b.length + 80) b (some ⟨g1, 0, none⟩) (p.length + 80) p W ((full_row HF01.out).2.ext0 hW) ((full_row HF1.out).2.ext0 hW) HB.out hlb hlp).mono fun e w' ⟨v, h1, h2, h3⟩ => ⟨v, h1, by rw [HLL.out]; exact OwnB.mono h2 (fun k _ hk => Nat.le_trans hW.size hk), h3⟩)
    refine wp_region_mem [sv _, sv _, sv _, sv (.slice (some ⟨g0, 0, none⟩) b.length (b.length + 80)), sv _, sv _, sv _, sv (.slice (some ⟨g1, 0, none⟩) p.length (p.length + 80)), sB (fun k => w1.heap.size ≤ k) L, sB (fun k => w1.heap.size ≤ k) L] (by kernel_rfl) rfl rfl rfl rfl ⟨
      (by
        intro Lq aq wq hd hj Kq hK
        rw [if_pos (wanted_none rfl)]
        have f5 := hj.base 5 rfl rfl
        exact opMove hK rfl (ev f5) rfl),
      (by
        intro Lq aq wq hd hj Kq hK
        rw [if_pos (wanted_none rfl)]
        have f0 := hj.base 0 rfl rfl
        exact opMove hK rfl (ev f0) rfl),
      (by
        intro Lq aq wq hd hj Kq hK
        rw [if_pos (wanted_none rfl)]
        have f14 := hj.val 1 14 rfl rfl (by simp) rfl (hd ⟨1, .data⟩ (by simp) rfl)
        exact opLen hK rfl (ev f14) (by kernel_rfl) rfl),
      (by
        intro Lq aq wq hd hj Kq hK
        rw [if_pos (wanted_none rfl)]
        have f13 := hj.val 0 13 rfl rfl (by simp) rfl (hd ⟨0, .data⟩ (by simp) rfl)
        have f15 := hj.val 2 15 rfl rfl (by simp) rfl (hd ⟨2, .data⟩ (by simp) rfl)
        exact opSliceOp hK rfl (ev f13) rfl (congrArg some (ev f15)) rfl Try.underlying22 HCUT0.out rfl),
      (by
        intro Lq aq wq hd hj Kq hK
        rw [if_pos (wanted_none rfl)]
        have f6 := hj.base 6 rfl rfl
        exact opMove hK rfl (ev f6) rfl),
      (by
        intro Lq aq wq hd hj Kq hK
        rw [if_pos (wanted_none rfl)]
        have f1 := hj.base 1 rfl rfl
        exact opMove hK rfl (ev f1) rfl),
      (by
        intro Lq aq wq hd hj Kq hK
        rw [if_pos (wanted_none rfl)]
        have f18 := hj.val 5 18 rfl rfl (by simp) rfl (hd ⟨5, .data⟩ (by simp) rfl)
        exact opLen hK rfl (ev f18) (by kernel_rfl) rfl),
      (by
        intro Lq aq wq hd hj Kq hK
        rw [if_pos (wanted_none rfl)]
        have f17 := hj.val 4 17 rfl rfl (by simp) rfl (hd ⟨4, .data⟩ (by simp) rfl)
        have f19 := hj.val 6 19 rfl rfl (by simp) rfl (hd ⟨6, .data⟩ (by simp) rfl)
        exact opSliceOp hK rfl (ev f17) rfl (congrArg some (ev f19)) rfl Try.underlying22 HCUT1.out rfl),
      (by
        intro Lq aq wq hd hj Kq hK
        rw [if_pos (wanted_none rfl)]
        have f16 := hj.val 3 16 rfl rfl (by simp) rfl (hd ⟨3, .data⟩ (by simp) rfl)
        have f20 := hj.val 7 20 rfl rfl (by simp) rfl (hd ⟨7, .data⟩ (by simp) rfl)
        exact opCall hK Try.func47 (by kernel_rfl) rfl (args := #[.slice (some ⟨g0, 0, none⟩) b.length (b.length + 80), .slice (some ⟨g1, 0, none⟩) p.length (p.length + 80)]) (by simp [ev f16, ev f20]) ((HPUT.out wq ((Ext.refl None_ _).drew.trans0 hj.ext)).mono fun e w' ⟨v, h1, h2, h3⟩ => ⟨v, h1, h2, h3⟩)),
      (by
        intro Lq aq wq hd hj Kq hK
        rw [if_pos (wanted_none rfl)]
        obtain ⟨u21, f21, g21⟩ := hj.at_ 8 21 rfl rfl (by simp) (hd ⟨8, .data⟩ (by simp) rfl)
        exact opAssign hK rfl (ev f21) g21),
      trivial⟩ ?fin
    case fin =>
      intro vs w2 hx hg
      have h9 : OwnB w2 (fun k => w1.heap.size ≤ k) (vs 9) L := hg 9 (by decide)
      obtain ⟨Aa, ca, hva, _⟩ := own_sl h9
      rw [HN.out] at hva
      have v9 : vs 9 = _ := hva
      rw [hva] at h9
      have hxx := (Ext.refl None_ w1).drew.trans0 hx
      have HX2 := Lib.hid (HX1.out.trans0 hxx)
      have HO2 := Lib.hid h9
      have HF2 := Lib.hid (HF01.out.ext hxx (fun a => a))
      have HF12 := Lib.hid (HF1.out.ext hxx (fun a => a))
      clear h9 hva hxx hx hg HPUT HCUT0 HCUT1 HX1 HF01 HF1
      simp only [putAll, v9, Nat.reduceAdd, Nat.zero_add]
      simp only [Act.put, List.setIfInBounds_toArray, List.set_cons_succ, List.set_cons_zero]
      clear v9
      go_wp2_with (first
        | (go_at_call 48; refine (rframe_any A c b A2 c2 p _ (HR1.out.ext0 HX2.out) (HR2.out.ext0 HX2.out) HB.out hlb hlp).mono ?_; rintro e w3 ⟨vr, rfl, ho, hx⟩; rw [← HLL.out] at ho; obtain ⟨Ar, cr, rfl, hrr⟩ := own_sl ho; have HRR := Lib.hid hrr; have HX3 := Lib.hid (HX2.out.trans0 hx); have HO3 := Lib.hid (OwnB.ext0 HO2.out hx); have HF3 := Lib.hid (HF2.out.ext hx (fun a => a)); have HF13 := Lib.hid (HF12.out.ext hx (fun a => a)); clear hrr ho hx HX2 HO2 HF2 HF12; rw [HN.out])
        | (go_at_call 25; refine (sameWK Aa ca L 0 HN.out Ar cr _ (own_row HO3.out) HRR.out hnl).mono ?_; rintro e w4 ⟨rfl, hx⟩; have HX4 := Lib.hid (HX3.out.trans0 hx); have HO4 := Lib.hid (OwnB.ext0 HO3.out hx); have HF4 := Lib.hid (HF3.out.ext hx (fun a => a)); have HF14 := Lib.hid (HF13.out.ext hx (fun a => a)); clear hx HX3 HO3 HF3 HF13 HRR))
      go_loopw [8] (fun v8 wr => v8 = .int .i64 0 ∧ Hid (Ext None_ w4 wr)) (fun v8 _ => 0)
      case atStart => exact ⟨rfl, Lib.hid (Ext.refl _ _)⟩
      case round =>
        obtain ⟨rfl, hx⟩ := hrel
        have HE0 := Lib.hid (HF4.out.ext hx.out (fun e => e))
        have HE2 := Lib.hid (HF14.out.ext hx.out (fun e => e))
        have HXE := Lib.hid (HX4.out.trans0 hx.out)
        have HE1 := Lib.hid (HR1.out.ext0 HXE.out)
        have HE3 := Lib.hid (HR2.out.ext0 HXE.out)
        have K0 : Hid True := Lib.hid trivial
        have K1 : Hid True := Lib.hid trivial
        clear HF4 HF14 hx HX4
        go_wp2_with (first
          | (go_at_call 39; have _k := K0.out; clear _k; refine (intactK g0 A c b 31 _ HE0.out HE1.out (by omega)).mono ?_; rintro e w5 ⟨rfl, hx⟩; have HE2' := Lib.hid (HE2.out.ext hx (fun a => a)); have HE3' := Lib.hid (HE3.out.ext0 hx); have HXE' := Lib.hid (HXE.out.trans0 hx); clear hx K0)
          | (go_at_call 39; have _k := K1.out; clear _k; refine (intactK g1 A2 c2 p 32 _ HE2'.out HE3'.out (by omega)).mono ?_; rintro e w6 ⟨rfl, hx⟩; have HXF := Lib.hid (HXE'.out.trans0 hx); clear hx K1)
          | (go_at_call 46; refine (FrameRuns_any _).mono ?_; rintro e w7 ⟨rfl, hx⟩; have HXG := Lib.hid (HXF.out.trans0 hx); clear hx HXF))
        go_ret
        exact ⟨rfl, HXG.out⟩
theorem FramePuts_row {A : Option Addr} {c : Nat} (b : List Int) {w : World} (hr1 : Row w A (B8 b)) (hc1 : b.length ≤ c) (hm1 : c ≤ 140737488351232) (hb1 : Byt b) {A2 : Option Addr} {c2 : Nat} (p : List Int) (hr2 : Row w A2 (B8 p)) (hc2 : p.length ≤ c2) (hm2 : c2 ≤ 140737488351232) (hb2 : Byt p) : Calls Try.prog 14 #[.slice A b.length c, .slice A2 p.length c2] w fun e w' => e = .returned (.bool true) ∧ Ext None_ w w' := FramePuts_any b p hr1 (by omega) hr2 (by omega) hb2
end Go.Proofs.Ytghkgfeamijefaa
