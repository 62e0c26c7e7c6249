/- FrameScans, walked. Written by gen_frs.py. -/
import Derived.Test.YtakcdmmniaipeaaFrQ
set_option linter.unusedVariables false
set_option linter.unusedSimpArgs false
namespace Go.Proofs.Ytakcdmmniaipeaa
open Go.RowKit B
/-- What FrameScans has made. -/
structure ScanS (w W1 W : World) (gb g0 : Nat) (A : Option Addr) (l : List Int) (v1 v2 : Value) (us1 us2 : List Value) (wp w2 : World) : Prop where
  ext : Ext None_ w W1
  rc1 : Recs wp W1 v1 us1 (scanF l).1
  rc2 : Recs w2 W1 v2 us2 (scanF l).1
  full : Blk W1 g0 (B8 (mark80 l 34)).toArray 5
  s0 : w.heap.size ≤ g0 ∧ g0 < wp.heap.size ∧ wp.heap.size ≤ w2.heap.size ∧ w2.heap.size ≤ gb ∧ gb < W1.heap.size
  b1 : ∀ k, v1.ownBlock = some k → k < gb
  b2 : ∀ k, v2.ownBlock = some k → k < gb
  o1 : ∀ u ∈ us1, ∀ k, u.ownBlock = some k → wp.heap.size ≤ k ∧ k < gb
  o2 : ∀ u ∈ us2, ∀ k, u.ownBlock = some k → k < gb
theorem scanK2 {nm : Nat} {A : Option Addr} {c : Nat} {l : List Int} {w : World} {P : Program} (h : Calls P nm #[.slice A l.length c] w (ScanP l w)) (n : Nat) (k : Int) (hn : (scanF l).1.length = n) (hk : (scanF l).2 = k) : Calls P nm #[.slice A l.length c] w fun e w' => ∃ B b us, e = .returned (.tuple #[.slice B n b, .int .i64 k]) ∧ Recs w w' (.slice B n b) us (scanF l).1 ∧ Ext None_ w w' :=
  h.mono fun e w' ⟨B, b, us, h1, h2, h3⟩ => ⟨B, b, us, by rw [← hn, ← hk]; exact h1, hn ▸ h2, h3⟩
theorem tab_at {w w' : World} {S : Nat → Prop} {B : Option Addr} {n b : Nat} {us : List Value} (h : Tab w (.slice B n b) us) (hx : Ext S w w') (hS : ∀ k, (Value.slice B n b).ownBlock = some k → ¬ S k) {i : Nat} {u : Value} (hu : us[i]? = some u) : ∃ g o, B = some ⟨g, o, none⟩ ∧ us.length = n ∧ w'.cell? ⟨g, o + i, none⟩ = some u := by
  have hl : 0 < us.length := by have := (List.getElem?_eq_some_iff.1 hu).1; omega
  obtain ⟨g, o, q, hv, _, hc⟩ := (h.ext hx hS).cells hl
  injection hv with h1 h2 _
  exact ⟨g, o, h1, h2.symm, hc i u hu⟩
theorem scanL_len (l : List Int) : ∀ (n : Nat) (acc : List (List Int)) (k : Int), (scanL l n acc k).1.length ≤ acc.length + n
  | 0, acc, k => Nat.le_refl _
  | n + 1, acc, k => by
    unfold scanL
    split
    · have := scanL_len l n (acc ++ [(nextF l k).1]) (nextF l k).2.1
      simp at this
      omega
    · simp
theorem scanL_small (l : List Int) (hb : Byt l) : ∀ (n : Nat) (acc : List (List Int)) (k : Int), (∀ r ∈ acc, r.length ≤ 16384) → ∀ r ∈ (scanL l n acc k).1, r.length ≤ 16384
  | 0, acc, k, h => h
  | n + 1, acc, k, h => by
    unfold scanL
    split
    · rename_i he
      refine scanL_small l hb n _ _ (fun r hr => ?_)
      rcases List.mem_append.1 hr with hr | hr
      · exact h r hr
      · rw [List.mem_singleton] at hr
        subst hr
        exact (nextF_ok l hb k he).2.2.2
    · exact h
set_option maxRecDepth 100000 in
set_option maxHeartbeats 16000000 in
theorem FrameScans_any {A : Option Addr} {c : Nat} (l : List Int) {w : World} (hr : Row w A (B8 l)) (hc : l.length ≤ c) (hm : l.length ≤ 1048576) (hb : Byt l) : Calls Try.prog 13 #[.slice A l.length c] w fun e w' => e = .returned (.bool true) ∧ Ext None_ w w' := by
  have HR := Lib.hid hr
  have HB := Lib.hid hb
  obtain ⟨n, hn⟩ : ∃ n, (scanF l).1.length = n := ⟨_, rfl⟩
  obtain ⟨kk, hkk⟩ : ∃ n, (scanF l).2 = n := ⟨_, rfl⟩
  have HN := Lib.hid hn
  have HKK := Lib.hid hkk
  clear hr hb hn hkk
  go_enter Try.func13, Try.ntmps13
  go_wp2_with (first
    | (go_at_call 34; refine (roomyK A c l 34 _ HR.out (by omega)).mono ?_; rintro e wp ⟨g0, rfl, hg, hblk, hx⟩; have HXP := Lib.hid hx; have HFU := Lib.hid hblk; have HGB := Lib.hid hg; have HCUT := fun W => cut_to0 g0 (l.length + 80) (l.length + 80) l.length (by omega) W; clear hblk hx hg)
    | (go_at_call 43; refine (scanK2 (Scan_any (some ⟨g0, 0, none⟩) (l.length + 80) l _ (full_row HFU.out).2 HB.out (by omega) hm) n kk HN.out HKK.out).mono ?_; rintro e w2 ⟨B1, b1, us1, rfl, hrc, hx⟩; have HRC1 := Lib.hid hrc; have HX2 := Lib.hid hx; clear hrc hx)
    | (go_at_call 44; refine (scanK2 (RScan_any A c l _ (HR.out.ext0 (HXP.out.trans0 HX2.out)) HB.out hc hm) n kk HN.out HKK.out).mono ?_; rintro e w3 ⟨B2, b2, us2, rfl, hrc, hx⟩; have HRC2 := Lib.hid hrc; have HX3 := Lib.hid hx; clear hrc hx))
  have hsz2 := HX2.out.size
  have hsz3 := HX3.out.size
  have HSS : Hid (ScanS w (w3.alloc (.cells emptyBook 61)) (w3.alloc (.cells emptyBook 61)) w3.heap.size g0 A l (.slice B1 n b1) (.slice B2 n b2) us1 us2 wp w2) := Lib.hid (by
    have h1 := HRC1.out.ext0 HX3.out
    have hx := ((HXP.out.trans0 HX2.out).trans0 HX3.out).trans0 (x0 w3 (.cells emptyBook 61))
    refine ⟨hx, h1.ext0 (x0 _ _), HRC2.out.ext0 (x0 _ _), ((HFU.out.ext HX2.out (fun a => a)).ext HX3.out (fun a => a)).alloc _, ⟨HGB.out, HFU.out.lt, hsz2, hsz3, by simp⟩, h1.tab.lt, HRC2.out.tab.lt, fun u hu k hk => ?_, fun u hu k hk => (HRC2.out.blk u hu k hk).2⟩
    exact h1.blk u hu k hk)
  have HBK := Lib.hid (BookAt.start (Blk.new w3 emptyBook 61))
  obtain ⟨W1, hW1⟩ : ∃ W, W = w3.alloc (.cells #[.slice none 0 0, .slice none 0 0, .int .i64 0, .bool false] 61) := ⟨_, rfl⟩
  have hW2 : w3.alloc (.cells emptyBook 61) = W1 := hW1.symm
  rw [hW2] at HSS HBK
  rw [← hW1]
  obtain ⟨gb, hgb⟩ : ∃ gb, gb = w3.heap.size := ⟨_, rfl⟩
  rw [← hgb] at HSS HBK ⊢
  have hn8 : n ≤ 1048577 := by have := scanL_len l (l.length + 1) [] 0; have h := HN.out; unfold scanF at h; rw [h] at this; simp at this; omega
  clear hW1 hW2 hgb hsz2 hsz3 HRC1 HRC2 HFU HX2 HX3 HGB HCUT
  go_loopw [9] (fun v9 wr => ∃ (i : Nat) (K : List Kp), v9 = .int .i64 i ∧ i ≤ n ∧ K.length ≤ 4000 ∧ Hid (BookAt W1 wr gb K) ∧ Hid (∀ y ∈ K, ∃ j, j < i ∧ us1[j]? = some y.v)) (fun v9 _ => n - (intOf v9).toNat)
  case atStart => exact ⟨0, [], rfl, by omega, by simp, HBK, Lib.hid (fun y hy => by simp at hy)⟩
  case round =>
    obtain ⟨i, K, rfl, hi, hK, hbk, hin⟩ := hrel
    clear HBK
    by_cases hlt : i < n
    · obtain ⟨u1, hu1⟩ : ∃ u, us1[i]? = some u := ⟨_, List.getElem?_eq_getElem (by rw [HSS.out.rc1.len, HN.out]; exact hlt)⟩
      obtain ⟨u2, hu2⟩ : ∃ u, us2[i]? = some u := ⟨_, List.getElem?_eq_getElem (by rw [HSS.out.rc2.len, HN.out]; exact hlt)⟩
      obtain ⟨r, hr⟩ : ∃ r, (scanF l).1[i]? = some r := ⟨_, List.getElem?_eq_getElem (by rw [HN.out]; exact hlt)⟩
      have hrl : r.length ≤ 16384 := scanL_small l HB.out (l.length + 1) [] 0 (fun r hr => by simp at hr) r (List.mem_of_getElem? hr)
      have ho1 := HSS.out.rc1.own i u1 r hu1 hr
      have ho2 := HSS.out.rc2.own i u2 r hu2 hr
      have hbx := hbk.out.ext
      have hne1 : ∀ k, u1.ownBlock = some k → ¬ k = gb := fun k hk e => by have := (HSS.out.o1 u1 (List.mem_of_getElem? hu1) k hk).2; omega
      have hne2 : ∀ k, u2.ownBlock = some k → ¬ k = gb := fun k hk e => by have := HSS.out.o2 u2 (List.mem_of_getElem? hu2) k hk; omega
      obtain ⟨A1, c1, rfl, _, hr1⟩ := OwnB.sl (OwnB.ext ho1 hbx hne1)
      obtain ⟨A2, c2, rfl, _, hr2⟩ := OwnB.sl (OwnB.ext ho2 hbx hne2)
      obtain ⟨g1, o1, hB1, hl1, k1⟩ := tab_at HSS.out.rc1.tab hbx (fun k hk e => by have := HSS.out.b1 k hk; have e : k = gb := e; omega) hu1
      obtain ⟨g2, o2, hB2, hl2, k2⟩ := tab_at HSS.out.rc2.tab hbx (fun k hk e => by have := HSS.out.b2 k hk; have e : k = gb := e; omega) hu2
      subst hB1 hB2
      have HR1 := Lib.hid hr1
      have HR2 := Lib.hid hr2
      have HO1 : Hid (OwnB W1 (fun k => k ≠ gb) (.slice A1 r.length c1) r) := Lib.hid ⟨ho1.own, fun k hk => hne1 k hk⟩
      have HAP : Hid (∀ y ∈ K, ∀ q, y.v.ownBlock = some q → ¬ (Value.slice A1 r.length c1).ownBlock = some q) := Lib.hid (fun y hy q h1 h2 => by
        obtain ⟨j, hj, hyj⟩ := hin.out y hy
        have hp := List.pairwise_iff_getElem.1 HSS.out.rc1.apart
        obtain ⟨hj1, hj2⟩ := List.getElem?_eq_some_iff.1 hyj
        obtain ⟨hi1, hi2⟩ := List.getElem?_eq_some_iff.1 hu1
        exact hp j i hj1 hi1 hj q (by rw [hj2]; exact h1) (by rw [hi2]; exact h2))
      have HU1 := Lib.hid hu1
      clear ho1 ho2 hbx hne1 hne2 hr1 hr2 hu1 hu2 hr hl1 hl2
      go_wp2_with fail
      refine wp_region_mem [sv _, sv _, sv _, sv _, sv _, sv _, sv _, sv _, sv (.bool true), sv (.bool false)] (by kernel_rfl) rfl rfl rfl rfl ⟨
        (by
          intro Lq aq wq hd hj Kq hK
          rw [if_pos (wanted_none rfl)]
          have f4 := hj.base 4 rfl rfl
          exact opMove hK rfl (ev f4) rfl),
        (by
          intro Lq aq wq hd hj Kq hK
          rw [if_pos (wanted_none rfl)]
          have f9 := hj.base 9 rfl rfl
          exact opMove hK rfl (ev f9) rfl),
        (by
          intro Lq aq wq hd hj Kq hK
          rw [if_pos (wanted_none rfl)]
          have f41 := hj.val 0 41 rfl rfl (by simp) rfl (hd ⟨0, .data⟩ (by simp) rfl)
          have f42 := hj.val 1 42 rfl rfl (by simp) rfl (hd ⟨1, .data⟩ (by simp) rfl)
          exact opIndexB hK rfl (j := o1 + i) (ev f41) (ev f42) Try.underlying59 infoSl1 (by omega) (by omega) (by simp) rfl),
        (by
          intro Lq aq wq hd hj Kq hK
          rw [if_pos (wanted_none rfl)]
          have f43 := hj.val 2 43 rfl rfl (by simp) rfl (hd ⟨2, .data⟩ (by simp) rfl)
          first
            | exact opLoad hK rfl (ev f43) Try.underlying22 rfl (Ext.cell ((Ext.refl None_ _).drew.trans0 hj.ext) k1 (fun a => a)) rfl
            | exact opLoad hK rfl (ev f43) Try.underlying22 rfl (Ext.cell ((Ext.refl None_ _).drew.trans0 hj.ext) k2 (fun a => a)) rfl),
        (by
          intro Lq aq wq hd hj Kq hK
          rw [if_pos (wanted_none rfl)]
          have f6 := hj.base 6 rfl rfl
          exact opMove hK rfl (ev f6) rfl),
        (by
          intro Lq aq wq hd hj Kq hK
          rw [if_pos (wanted_none rfl)]
          have f9 := hj.base 9 rfl rfl
          exact opMove hK rfl (ev f9) rfl),
        (by
          intro Lq aq wq hd hj Kq hK
          rw [if_pos (wanted_none rfl)]
          have f45 := hj.val 4 45 rfl rfl (by simp) rfl (hd ⟨4, .data⟩ (by simp) rfl)
          have f46 := hj.val 5 46 rfl rfl (by simp) rfl (hd ⟨5, .data⟩ (by simp) rfl)
          exact opIndexB hK rfl (j := o2 + i) (ev f45) (ev f46) Try.underlying59 infoSl1 (by omega) (by omega) (by simp) rfl),
        (by
          intro Lq aq wq hd hj Kq hK
          rw [if_pos (wanted_none rfl)]
          have f47 := hj.val 6 47 rfl rfl (by simp) rfl (hd ⟨6, .data⟩ (by simp) rfl)
          first
            | exact opLoad hK rfl (ev f47) Try.underlying22 rfl (Ext.cell ((Ext.refl None_ _).drew.trans0 hj.ext) k1 (fun a => a)) rfl
            | exact opLoad hK rfl (ev f47) Try.underlying22 rfl (Ext.cell ((Ext.refl None_ _).drew.trans0 hj.ext) k2 (fun a => a)) rfl),
        (by
          intro Lq aq wq hd hj Kq hK
          rw [if_pos (wanted_none rfl)]
          have f44 := hj.val 3 44 rfl rfl (by simp) rfl (hd ⟨3, .data⟩ (by simp) rfl)
          have f48 := hj.val 7 48 rfl rfl (by simp) rfl (hd ⟨7, .data⟩ (by simp) rfl)
          exact opCall hK Try.func24 (by kernel_rfl) rfl (args := #[.slice A1 r.length c1, .slice A2 r.length c2]) (by simp [ev f44, ev f48]) ((sameK A1 c1 r r.length rfl A2 c2 _ (HR1.out.ext0 ((Ext.refl None_ _).drew.trans0 hj.ext)) (HR2.out.ext0 ((Ext.refl None_ _).drew.trans0 hj.ext)) (by omega)).mono fun e w' ⟨h1, h2⟩ => ⟨_, h1, rfl, h2⟩)),
        (by
          intro Lq aq wq hd hj Kq hK
          rw [if_pos (wanted_none rfl)]
          have f49 := hj.val 8 49 rfl rfl (by simp) rfl (hd ⟨8, .data⟩ (by simp) rfl)
          exact opNot hK rfl (ev f49) rfl),
        trivial⟩ ?fin
      case fin =>
        intro vs w9 hx hg
        have v9 : vs 9 = _ := hg 9 (by decide)
        have hxx := (Ext.refl None_ _).drew.trans0 hx
        have HBK9 := Lib.hid (hbk.out.ext0 hxx)
        have k19 := hxx.cell k1 (fun a => a)
        clear hx hg k1 k2 hxx
        simp only [putAll, v9, Nat.reduceAdd, Nat.zero_add]
        simp only [Act.put, List.setIfInBounds_toArray, List.set_cons_succ, List.set_cons_zero]
        go_wp2_with (go_at_call 39; refine (KeepK W1 gb K A1 c1 r r.length rfl _ HBK9.out hK HO1.out (by omega) HAP.out).mono ?_; rintro e wL ⟨rfl, n2, hbk2, hle⟩; obtain ⟨K2, hK2⟩ : ∃ K2, K2 = ((K ++ [Kp.mk (.slice A1 r.length c1) r]).drop n2) := ⟨_, rfl⟩; have hin2 : ∀ y ∈ K2, ∃ j, j < i + 1 ∧ us1[j]? = some y.v := (fun y hy => (List.mem_append.1 (List.mem_of_mem_drop (hK2 ▸ hy))).elim (fun h => (hin.out y h).elim (fun j hj => ⟨j, Nat.lt_succ_of_lt hj.1, hj.2⟩)) (fun h => ⟨i, Nat.lt_succ_self i, by rw [List.mem_singleton.1 h]; exact HU1.out⟩)); rw [← hK2] at hbk2 hle; have HB2 := Lib.hid hbk2; have HIN2 := Lib.hid hin2; clear hbk2 hK2 hin2 HBK9)
        go_roundw
        case rel => exact ⟨i + 1, K2, by go_num, by omega, hle, HB2, HIN2⟩
        case measure => simp [intOf]; omega
    · go_wp2_with (first
        | (go_at_call 40; refine (Apart_any W1 gb K _ hbk.out (by omega)).mono ?_; rintro e wQ ⟨rfl, hx⟩; have hlo : ∀ q, (q = gb ∨ ∃ x ∈ K, x.v.ownBlock = some q) → wp.heap.size ≤ q := (fun q hq => hq.elim (fun e => by have h := HSS.out.s0; omega) (fun h => h.elim (fun y hy => (hin.out y hy.1).elim (fun j hj => (HSS.out.o1 _ (List.mem_of_getElem? hj.2) q hy.2).1)))); have HXQ : Hid (Ext None_ w wQ) := Lib.hid (HSS.out.ext.trans hx (fun q hq e => by have h1 := hlo q e; have h := HSS.out.s0; omega)); have HFQ := Lib.hid (HSS.out.full.ext hx (fun e => by have h1 := hlo g0 e; have h := HSS.out.s0; omega)); clear hx hlo)
        | (go_at_call 38; refine (intactK g0 A c l 34 _ HFQ.out (HR.out.ext0 HXQ.out) (by omega)).mono ?_; rintro e wI ⟨rfl, hx⟩; have HXI := Lib.hid (HXQ.out.trans0 hx); clear hx HXQ HFQ)
        | (go_at_call 45; refine (FrameRuns_any _).mono ?_; rintro e wZ ⟨rfl, hx⟩; have HXZ := Lib.hid (HXI.out.trans0 hx); clear hx HXI))
      go_ret
      exact ⟨rfl, HXZ.out⟩
theorem FrameScans_row {A : Option Addr} {c : Nat} (l : List Int) {w : World} (hr : Row w A (B8 l)) (hc : l.length ≤ c) (hm : c ≤ 1048576) (hb : Byt l) : Calls Try.prog 13 #[.slice A l.length c] w fun e w' => e = .returned (.bool true) ∧ Ext None_ w w' := FrameScans_any l hr hc (by omega) hb
end Go.Proofs.Ytakcdmmniaipeaa
