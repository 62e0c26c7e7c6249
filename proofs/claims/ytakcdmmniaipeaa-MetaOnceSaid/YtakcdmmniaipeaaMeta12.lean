/- MetaOnce, walked. Written by gen_meta12.py. -/
import Derived.Test.YtakcdmmniaipeaaMetaP
import Derived.Test.YtakcdmmniaipeaaMeta6
import Derived.Test.YtakcdmmniaipeaaOpen23
set_option linter.unusedVariables false
set_option linter.unusedSimpArgs false
namespace Go.Proofs.Ytakcdmmniaipeaa
open Go.RowKit B
theorem within_rng (n lo hi : Int) (h : lo ≤ hi) : lo ≤ within n lo hi ∧ within n lo hi ≤ hi := by
  unfold within
  have := Int.emod_nonneg n (show hi - lo + 1 ≠ 0 by omega)
  have := Int.emod_lt_of_pos n (show 0 < hi - lo + 1 by omega)
  omega
theorem within_neg (n lo hi : Int) (w : World) (hn : I64 n) (h0 : -1000 ≤ lo) (h1 : lo ≤ hi) (h2 : hi ≤ 1000) :
    Calls Try.prog 16 #[.int .i64 n, .int .i64 lo, .int .i64 hi] w fun e w' => e = .returned (.int .i64 (within n lo hi)) ∧ w = w' := by
  obtain ⟨hn1, hn2⟩ := hn
  have hd : 0 < hi - lo + 1 := by omega
  obtain ⟨t1, t2, t3⟩ := tmod_cases n (hi - lo + 1) hd
  by_cases hneg : n < 0
  · by_cases hz : n.tmod (hi - lo + 1) < 0
    · have HE : Hid (within n lo hi = lo + (n.tmod (hi - lo + 1) + hi - lo + 1)) := Lib.hid (by unfold within; rw [t3, if_pos hz]; omega)
      clear t3
      go_enter Try.func16, Try.ntmps16
      go_wp2
      go_ret
      exact ⟨ret_ (by rw [HE.out]), rfl⟩
    · have HE : Hid (within n lo hi = lo + n.tmod (hi - lo + 1)) := Lib.hid (by unfold within; rw [t3, if_neg hz])
      clear t3
      go_enter Try.func16, Try.ntmps16
      go_wp2
      go_ret
      exact ⟨ret_ (by rw [HE.out]), rfl⟩
  · have hn0 : 0 ≤ n := by omega
    have he1 := Int.emod_nonneg n (show hi - lo + 1 ≠ 0 by omega)
    have he2 := Int.emod_lt_of_pos n hd
    clear t1 t2 t3 hneg
    go_enter Try.func16, Try.ntmps16
    go_wp2
    go_ret
    exact ⟨ret_ rfl, rfl⟩
set_option maxRecDepth 100000 in
set_option maxHeartbeats 16000000 in
theorem MetaOnce_any (A0 : Option Addr) (cap : Nat) (l : List AskM) (w : World) (hl : Aks23 w A0 l) (hlen : l.length ≤ 140737488351232) : Calls Try.prog 4 #[.slice A0 l.length cap] w fun e w' => e = .returned (.bool true) ∧ Ext None_ w w' := by
  have HL := Lib.hid hl
  have HNEW := Lib.hid (lw_new 1048576 w (by omega) (by omega))
  have HIE := Lib.hid (inv_empty 1048576)
  have HOE := Lib.hid (open_empty 1048576)
  clear hl
  go_enter Try.func4, Try.ntmps4
  go_wp2_with (first
    | (go_at_call 14; refine HNEW.out.mono ?_; rintro e wA ⟨g, rfl, h1⟩; have HA := Lib.hid h1; clear h1 HNEW)
    | (go_at_call 17; refine (open_anyM w [] [] g _ _ HA.out (by simp [emptyD])).mono ?_; rintro e wC h1; unfold OpenP at h1; rw [if_pos (by rw [HOE.out.1]), HOE.out.1, HOE.out.2] at h1; simp only at h1; obtain ⟨gm, rfl, h1, h2, h3⟩ := h1; have HM0 := Lib.hid h1; have HL0 := Lib.hid h2; have HG := Lib.hid h3; clear h1 h2 h3 HA HOE))
  go_loopw [3, 5, 6, 7, 8] (fun v3 v5 v6 v7 v8 wr => ∃ (i g gm : Nat) (D : DS) (m : Mt), v3 = .pointer (some ⟨g, 0, none⟩) ∧ v5 = .pointer (some ⟨gm, 0, none⟩) ∧ v6 = .int .i64 m.r.term ∧ v7 = .int .i64 m.r.vote ∧ v8 = .int .i64 i ∧ i ≤ 60 ∧ Hid (Inv D m i) ∧ Hid (w.heap.size ≤ gm) ∧ Hid (MetaB wr gm g m.file m.r) ∧ Hid (Lw w (GM gm) [] g D wr)) (fun _ _ _ _ v8 _ => 60 - (intOf v8).toNat)
  case atStart => exact ⟨0, g, gm, _, ⟨1, ⟨0, 0, -1⟩⟩, rfl, rfl, rfl, rfl, rfl, by omega, HIE, HG, HM0, HL0⟩
  case round =>
    obtain ⟨i, g, gm, D, m, rfl, rfl, rfl, rfl, rfl, hi, hinv, hgm, hmb, hlw⟩ := hrel
    by_cases hend : i < l.length ∧ i < 60
    · obtain ⟨h1, h2⟩ := hend
      obtain ⟨q, hq⟩ : ∃ q, q = l[i] := ⟨_, rfl⟩
      obtain ⟨ad, hA0, ⟨k0, k1, k2, k3, k4, k5, k6⟩, hok⟩ := HL.out i q (by rw [hq]; exact List.getElem?_eq_getElem h1)
      subst hA0
      have hx0 := (Lw.x hlw.out)
      have d0 := hx0.cell k0 (fun a => a)
      have d1 := hx0.cell k1 (fun a => a)
      have d2 := hx0.cell k2 (fun a => a)
      have d3 := hx0.cell k3 (fun a => a)
      have d4 := hx0.cell k4 (fun a => a)
      have d5 := hx0.cell k5 (fun a => a)
      have d6 := hx0.cell k6 (fun a => a)
      have HOK := Lib.hid hok
      clear hq k0 k1 k2 k3 k4 k5 k6 hx0 hok
      by_cases hk : q.kind = 1 ∨ q.kind = 2
      · by_cases hk1 : q.kind = 1
        · have hb1 : (q.kind == 1) = true := by simp [hk1]
          have hb2 : (q.kind == 2) = false := by simp [hk1]
          have hfa := fit_age hinv.out.fit
          have hga := hinv.out.age
          have hfl := hinv.out.fit.fl
          have HWL := Lib.hid hinv.out.wl
          obtain ⟨WT, hWT⟩ : ∃ x, x = within q.term (-1) 2 := ⟨_, rfl⟩
          obtain ⟨WV, hWV⟩ : ∃ x, x = within q.vote (-1) 6 := ⟨_, rfl⟩
          have hwt : -1 ≤ WT ∧ WT ≤ 2 := by rw [hWT]; exact within_rng _ _ _ (by decide)
          have hwv : -1 ≤ WV ∧ WV ≤ 6 := by rw [hWV]; exact within_rng _ _ _ (by decide)
          have HWT := Lib.hid hWT
          have HWV := Lib.hid hWV
          clear hWT hWV
          have hsi := set_inv (m.r.term + WT) WV hinv.out (by omega)
          obtain ⟨⟨ys, D3, m3⟩, hst⟩ : ∃ x, x = setM D m (m.r.term + WT) WV := ⟨_, rfl⟩
          rw [← hst] at hsi
          simp only at hsi
          obtain ⟨hi3, hm3⟩ := hsi
          obtain ⟨o6, o7⟩ := once_test hm3
          have HST := Lib.hid hst
          have HI3 := Lib.hid hi3
          clear hst hi3 hm3
          obtain ⟨b0, b1, b2, b3, b4⟩ := hfa
          go_wp2_with fail
          have HMR := Lib.hid (Blk.ext hmb.out (x0 wr (.cells #[.int .i64 1, .int .i64 q.term, .int .i64 q.vote, .int .i64 q.n, .int .i64 q.keep, .int .i64 q.torn, .bool q.raw] 38)) (fun a => a))
          have HLR := Lib.hid (hlw.out.ext0 (x0 wr (.cells #[.int .i64 1, .int .i64 q.term, .int .i64 q.vote, .int .i64 q.n, .int .i64 q.keep, .int .i64 q.torn, .bool q.raw] 38)))
          have e1 := Blk.cell (Blk.new wr #[.int .i64 1, .int .i64 q.term, .int .i64 q.vote, .int .i64 q.n, .int .i64 q.keep, .int .i64 q.torn, .bool q.raw] 38) 1
          have e2 := Blk.cell (Blk.new wr #[.int .i64 1, .int .i64 q.term, .int .i64 q.vote, .int .i64 q.n, .int .i64 q.keep, .int .i64 q.torn, .bool q.raw] 38) 2
          refine wp_region_last [sv _, sv _, sv (.int .i64 m.r.term), sv _, sv _, sv (.int .i64 WT), sv _, sv _, sv _, sv (.int .i64 WV)] (by kernel_rfl) rfl rfl rfl rfl rfl (by decide) ⟨
            (by
              intro Lq aq wq hd hj Kq hK
              rw [if_pos (wanted_none rfl)]
              have f5 := hj.base 5 rfl rfl
              exact opMove hK rfl (ev f5) rfl),
            (by
              intro Lq aq wq hd hj Kq hK
              rw [if_pos (wanted_none rfl)]
              have f5 := hj.base 5 rfl rfl
              exact opMove hK rfl (ev f5) rfl),
            (by
              intro Lq aq wq hd hj Kq hK
              rw [if_pos (wanted_none rfl)]
              have f76 := hj.val 1 76 rfl rfl (by simp) rfl (hd ⟨1, .data⟩ (by simp) rfl)
              exact opCall hK Try.func18 (by kernel_rfl) rfl (args := #[.pointer (some ⟨gm, 0, none⟩)]) (by simp [ev f76]) ((mTerm_any gm g _ _ _ (Blk.ext HMR.out ((Ext.refl None_ _).drew.trans0 hj.ext) (fun a => a))).mono fun e w' ⟨h1, h2⟩ => ⟨_, h1, rfl, h2⟩)),
            (by
              intro Lq aq wq hd hj Kq hK
              rw [if_pos (wanted_none rfl)]
              have f9 := hj.base 9 rfl rfl
              exact opFieldA hK rfl (k := 1) (ev f9) (fun W => by kernel_rfl) rfl),
            (by
              intro Lq aq wq hd hj Kq hK
              rw [if_pos (wanted_none rfl)]
              have f78 := hj.val 3 78 rfl rfl (by simp) rfl (hd ⟨3, .data⟩ (by simp) rfl)
              first
                | exact opLoad hK rfl (ev f78) Try.underlying3 rfl (Ext.cell ((Ext.refl None_ _).drew.trans0 hj.ext) e1 (fun a => a)) rfl
                | exact opLoad hK rfl (ev f78) Try.underlying3 rfl (Ext.cell ((Ext.refl None_ _).drew.trans0 hj.ext) e2 (fun a => a)) rfl),
            (by
              intro Lq aq wq hd hj Kq hK
              rw [if_pos (wanted_none rfl)]
              have f79 := hj.val 4 79 rfl rfl (by simp) rfl (hd ⟨4, .data⟩ (by simp) rfl)
              exact opCall hK Try.func16 (by kernel_rfl) rfl (args := #[.int .i64 q.term, .int .i64 (-1), .int .i64 2]) (by simp [ev f79]) ((within_neg q.term (-1) 2 _ HOK.out.2.1 (by decide) (by decide) (by decide)).mono fun e w' ⟨h1, h2⟩ => ⟨_, h1, congrArg (Value.int .i64) HWT.out.symm, h2 ▸ Ext.refl _ _⟩)),
            (by
              intro Lq aq wq hd hj Kq hK
              rw [if_pos (wanted_none rfl)]
              have f77 := hj.val 2 77 rfl rfl (by simp) rfl (hd ⟨2, .data⟩ (by simp) rfl)
              have f80 := hj.val 5 80 rfl rfl (by simp) rfl (hd ⟨5, .data⟩ (by simp) rfl)
              exact opBin hK rfl (ev f77) (ev f80) (guardInt _ _ _ _ _ _ _ _ _) (binAdd _ _ _ _ (IntWalk.i64_in _ (by omega))) rfl),
            (by
              intro Lq aq wq hd hj Kq hK
              rw [if_pos (wanted_none rfl)]
              have f9 := hj.base 9 rfl rfl
              exact opFieldA hK rfl (k := 2) (ev f9) (fun W => by kernel_rfl) rfl),
            (by
              intro Lq aq wq hd hj Kq hK
              rw [if_pos (wanted_none rfl)]
              have f82 := hj.val 7 82 rfl rfl (by simp) rfl (hd ⟨7, .data⟩ (by simp) rfl)
              first
                | exact opLoad hK rfl (ev f82) Try.underlying3 rfl (Ext.cell ((Ext.refl None_ _).drew.trans0 hj.ext) e1 (fun a => a)) rfl
                | exact opLoad hK rfl (ev f82) Try.underlying3 rfl (Ext.cell ((Ext.refl None_ _).drew.trans0 hj.ext) e2 (fun a => a)) rfl),
            (by
              intro Lq aq wq hd hj Kq hK
              rw [if_pos (wanted_none rfl)]
              have f83 := hj.val 8 83 rfl rfl (by simp) rfl (hd ⟨8, .data⟩ (by simp) rfl)
              exact opCall hK Try.func16 (by kernel_rfl) rfl (args := #[.int .i64 q.vote, .int .i64 (-1), .int .i64 6]) (by simp [ev f83]) ((within_neg q.vote (-1) 6 _ HOK.out.2.2.1 (by decide) (by decide) (by decide)).mono fun e w' ⟨h1, h2⟩ => ⟨_, h1, congrArg (Value.int .i64) HWV.out.symm, h2 ▸ Ext.refl _ _⟩)),
            trivial⟩ ?fin
          case fin =>
            intro vs w9 hx hg
            have v0 : vs 0 = _ := hg 0 (by decide)
            have v6 : vs 6 = _ := hg 6 (by decide)
            have v9 : vs 9 = _ := hg 9 (by decide)
            have X := Lib.hid ((Ext.refl None_ _).drew.trans0 hx)
            clear hx hg e1 e2
            simp only [List.dropLast, List.getLast?, List.getLast, Option.toList, putAll, v0, v6, v9, Nat.reduceAdd, Nat.zero_add]
            simp only [Act.put, List.setIfInBounds_toArray, List.set_cons_succ, List.set_cons_zero]
            have HM9 : Hid (MetaB w9 gm g m.file m.r) := Lib.hid (Blk.ext HMR.out X.out (fun a => a))
            have HL9 := Lib.hid (HLR.out.ext0 X.out)
            clear HMR HLR X v0 v6 v9
            by_cases et : m3.r.term = m.r.term
            · by_cases ev : m.r.vote = -1
              · clear o7
                go_wp2_with (first
                  | (go_at_call 20; refine (mSet_any w gm g D m.file m.r (m.r.term + WT) WV _ HL9.out HM9.out hgm.out hfl (by omega) (by unfold I64; omega) (by unfold I64; omega) (by have := HWL.out; omega)).mono ?_; rintro e wS h1; have h1 : SetP w gm g (setM D m (m.r.term + WT) WV) e wS := h1; rw [← HST.out] at h1; unfold SetP at h1; simp only at h1; obtain ⟨rfl, h2, h3⟩ := h1; have HM0 := Lib.hid h3; have HL0 := Lib.hid h2; clear h2 h3 HL9 HM9)
                  | (go_at_call 18; refine (mTerm_any gm g _ _ _ HM0.out).mono ?_; rintro e wT ⟨rfl, hx⟩; have HL1 := Lib.hid (HL0.out.ext0 hx); have HM1 := Lib.hid (meta_keep (w0 := w) HM0.out (ofQ hx)); clear hx HL0 HM0)
                  | (go_at_call 19; refine (mVote_any gm g _ _ _ HM1.out).mono ?_; rintro e wV ⟨rfl, hx⟩; have HL2 := Lib.hid (HL1.out.ext0 hx); have HM2 := Lib.hid (meta_keep (w0 := w) HM1.out (ofQ hx)); clear hx HL1 HM1))
                go_roundw
                case rel => exact ⟨i + 1, g, gm, _, m3, rfl, rfl, (by first | rfl | rw [et]), (by first | rfl | rw [ew]), by go_num, by omega, Lib.hid HI3.out, hgm, HM2, HL2⟩
                case measure => simp [intOf]; omega
              · have ew := o7 et ev
                clear o7
                go_wp2_with (first
                  | (go_at_call 20; refine (mSet_any w gm g D m.file m.r (m.r.term + WT) WV _ HL9.out HM9.out hgm.out hfl (by omega) (by unfold I64; omega) (by unfold I64; omega) (by have := HWL.out; omega)).mono ?_; rintro e wS h1; have h1 : SetP w gm g (setM D m (m.r.term + WT) WV) e wS := h1; rw [← HST.out] at h1; unfold SetP at h1; simp only at h1; obtain ⟨rfl, h2, h3⟩ := h1; have HM0 := Lib.hid h3; have HL0 := Lib.hid h2; clear h2 h3 HL9 HM9)
                  | (go_at_call 18; refine (mTerm_any gm g _ _ _ HM0.out).mono ?_; rintro e wT ⟨rfl, hx⟩; have HL1 := Lib.hid (HL0.out.ext0 hx); have HM1 := Lib.hid (meta_keep (w0 := w) HM0.out (ofQ hx)); clear hx HL0 HM0)
                  | (go_at_call 19; refine (mVote_any gm g _ _ _ HM1.out).mono ?_; rintro e wV ⟨rfl, hx⟩; have HL2 := Lib.hid (HL1.out.ext0 hx); have HM2 := Lib.hid (meta_keep (w0 := w) HM1.out (ofQ hx)); clear hx HL1 HM1))
                go_roundw
                case rel => exact ⟨i + 1, g, gm, _, m3, rfl, rfl, (by first | rfl | rw [et]), (by first | rfl | rw [ew]), by go_num, by omega, Lib.hid HI3.out, hgm, HM2, HL2⟩
                case measure => simp [intOf]; omega
            · clear o7
              go_wp2_with (first
                | (go_at_call 20; refine (mSet_any w gm g D m.file m.r (m.r.term + WT) WV _ HL9.out HM9.out hgm.out hfl (by omega) (by unfold I64; omega) (by unfold I64; omega) (by have := HWL.out; omega)).mono ?_; rintro e wS h1; have h1 : SetP w gm g (setM D m (m.r.term + WT) WV) e wS := h1; rw [← HST.out] at h1; unfold SetP at h1; simp only at h1; obtain ⟨rfl, h2, h3⟩ := h1; have HM0 := Lib.hid h3; have HL0 := Lib.hid h2; clear h2 h3 HL9 HM9)
                | (go_at_call 18; refine (mTerm_any gm g _ _ _ HM0.out).mono ?_; rintro e wT ⟨rfl, hx⟩; have HL1 := Lib.hid (HL0.out.ext0 hx); have HM1 := Lib.hid (meta_keep (w0 := w) HM0.out (ofQ hx)); clear hx HL0 HM0)
                | (go_at_call 19; refine (mVote_any gm g _ _ _ HM1.out).mono ?_; rintro e wV ⟨rfl, hx⟩; have HL2 := Lib.hid (HL1.out.ext0 hx); have HM2 := Lib.hid (meta_keep (w0 := w) HM1.out (ofQ hx)); clear hx HL1 HM1))
              go_roundw
              case rel => exact ⟨i + 1, g, gm, _, m3, rfl, rfl, (by first | rfl | rw [et]), (by first | rfl | rw [ew]), by go_num, by omega, Lib.hid HI3.out, hgm, HM2, HL2⟩
              case measure => simp [intOf]; omega
        · by_cases hn1 : 0 < q.n
          · by_cases hn2 : q.n < 9
            · have hk2 : q.kind = 2 := by omega
              have hb1 : (q.kind == 1) = false := by simp [hk1]
              have hb2 : (q.kind == 2) = true := by simp [hk2]
              have hfa := fit_age hinv.out.fit
              have hga := hinv.out.age
              have hfl := hinv.out.fit.fl
              have HWL := Lib.hid (arm_inv hinv.out q.n).wl
              obtain ⟨WT, hWT⟩ : ∃ x, x = within q.term (-1) 2 := ⟨_, rfl⟩
              obtain ⟨WV, hWV⟩ : ∃ x, x = within q.vote (-1) 6 := ⟨_, rfl⟩
              have hwt : -1 ≤ WT ∧ WT ≤ 2 := by rw [hWT]; exact within_rng _ _ _ (by decide)
              have hwv : -1 ≤ WV ∧ WV ≤ 6 := by rw [hWV]; exact within_rng _ _ _ (by decide)
              have HWT := Lib.hid hWT
              have HWV := Lib.hid hWV
              clear hWT hWV
              have hsi := set_inv (m.r.term + WT) WV (arm_inv hinv.out q.n) (by omega)
              obtain ⟨⟨ys, D3, m3⟩, hst⟩ : ∃ x, x = setM (armD D q.n) m (m.r.term + WT) WV := ⟨_, rfl⟩
              rw [← hst] at hsi
              simp only at hsi
              obtain ⟨hi3, hm3⟩ := hsi
              obtain ⟨o6, o7⟩ := once_test hm3
              have HST := Lib.hid hst
              have HI3 := Lib.hid hi3
              clear hst hi3 hm3
              obtain ⟨b0, b1, b2, b3, b4⟩ := hfa
              go_wp2_with (go_at_call 21; refine (lw_arm (Lw.addRow (l := []) hlw.out (x0 wr _) (Row.nil _ (some ⟨wr.heap.size, 0, none⟩)) (fun ad e => by cases e; simp)) q.n (by omega)).mono ?_; rintro e wA ⟨rfl, h2, hx⟩; have HLR := Lib.hid (Lw.sub (rs' := GM gm) (qs' := []) h2 (fun r h => List.mem_cons_of_mem _ h) (fun _ h => h)); have HMR : Hid (MetaB wA gm g m.file m.r) := Lib.hid (Blk.ext (Blk.ext hmb.out (x0 wr _) (fun a => a)) hx (fun h => h.2 _ (List.mem_cons_of_mem _ (List.mem_cons_self ..)) _ rfl rfl)); have HBA := Lib.hid (Blk.ext (Blk.new wr #[.int .i64 2, .int .i64 q.term, .int .i64 q.vote, .int .i64 q.n, .int .i64 q.keep, .int .i64 q.torn, .bool q.raw] 38) hx (fun h => h.2 _ (List.mem_cons_self ..) _ rfl rfl)); clear h2 hx)
              have HMR := Lib.hid HMR.out
              have HLR := Lib.hid HLR.out
              have e1 := Blk.cell HBA.out 1
              have e2 := Blk.cell HBA.out 2
              refine wp_region_last [sv _, sv _, sv (.int .i64 m.r.term), sv _, sv _, sv (.int .i64 WT), sv _, sv _, sv _, sv (.int .i64 WV)] (by kernel_rfl) rfl rfl rfl rfl rfl (by decide) ⟨
                (by
                  intro Lq aq wq hd hj Kq hK
                  rw [if_pos (wanted_none rfl)]
                  have f5 := hj.base 5 rfl rfl
                  exact opMove hK rfl (ev f5) rfl),
                (by
                  intro Lq aq wq hd hj Kq hK
                  rw [if_pos (wanted_none rfl)]
                  have f5 := hj.base 5 rfl rfl
                  exact opMove hK rfl (ev f5) rfl),
                (by
                  intro Lq aq wq hd hj Kq hK
                  rw [if_pos (wanted_none rfl)]
                  have f76 := hj.val 1 76 rfl rfl (by simp) rfl (hd ⟨1, .data⟩ (by simp) rfl)
                  exact opCall hK Try.func18 (by kernel_rfl) rfl (args := #[.pointer (some ⟨gm, 0, none⟩)]) (by simp [ev f76]) ((mTerm_any gm g _ _ _ (Blk.ext HMR.out ((Ext.refl None_ _).drew.trans0 hj.ext) (fun a => a))).mono fun e w' ⟨h1, h2⟩ => ⟨_, h1, rfl, h2⟩)),
                (by
                  intro Lq aq wq hd hj Kq hK
                  rw [if_pos (wanted_none rfl)]
                  have f9 := hj.base 9 rfl rfl
                  exact opFieldA hK rfl (k := 1) (ev f9) (fun W => by kernel_rfl) rfl),
                (by
                  intro Lq aq wq hd hj Kq hK
                  rw [if_pos (wanted_none rfl)]
                  have f78 := hj.val 3 78 rfl rfl (by simp) rfl (hd ⟨3, .data⟩ (by simp) rfl)
                  first
                    | exact opLoad hK rfl (ev f78) Try.underlying3 rfl (Ext.cell ((Ext.refl None_ _).drew.trans0 hj.ext) e1 (fun a => a)) rfl
                    | exact opLoad hK rfl (ev f78) Try.underlying3 rfl (Ext.cell ((Ext.refl None_ _).drew.trans0 hj.ext) e2 (fun a => a)) rfl),
                (by
                  intro Lq aq wq hd hj Kq hK
                  rw [if_pos (wanted_none rfl)]
                  have f79 := hj.val 4 79 rfl rfl (by simp) rfl (hd ⟨4, .data⟩ (by simp) rfl)
                  exact opCall hK Try.func16 (by kernel_rfl) rfl (args := #[.int .i64 q.term, .int .i64 (-1), .int .i64 2]) (by simp [ev f79]) ((within_neg q.term (-1) 2 _ HOK.out.2.1 (by decide) (by decide) (by decide)).mono fun e w' ⟨h1, h2⟩ => ⟨_, h1, congrArg (Value.int .i64) HWT.out.symm, h2 ▸ Ext.refl _ _⟩)),
                (by
                  intro Lq aq wq hd hj Kq hK
                  rw [if_pos (wanted_none rfl)]
                  have f77 := hj.val 2 77 rfl rfl (by simp) rfl (hd ⟨2, .data⟩ (by simp) rfl)
                  have f80 := hj.val 5 80 rfl rfl (by simp) rfl (hd ⟨5, .data⟩ (by simp) rfl)
                  exact opBin hK rfl (ev f77) (ev f80) (guardInt _ _ _ _ _ _ _ _ _) (binAdd _ _ _ _ (IntWalk.i64_in _ (by omega))) rfl),
                (by
                  intro Lq aq wq hd hj Kq hK
                  rw [if_pos (wanted_none rfl)]
                  have f9 := hj.base 9 rfl rfl
                  exact opFieldA hK rfl (k := 2) (ev f9) (fun W => by kernel_rfl) rfl),
                (by
                  intro Lq aq wq hd hj Kq hK
                  rw [if_pos (wanted_none rfl)]
                  have f82 := hj.val 7 82 rfl rfl (by simp) rfl (hd ⟨7, .data⟩ (by simp) rfl)
                  first
                    | exact opLoad hK rfl (ev f82) Try.underlying3 rfl (Ext.cell ((Ext.refl None_ _).drew.trans0 hj.ext) e1 (fun a => a)) rfl
                    | exact opLoad hK rfl (ev f82) Try.underlying3 rfl (Ext.cell ((Ext.refl None_ _).drew.trans0 hj.ext) e2 (fun a => a)) rfl),
                (by
                  intro Lq aq wq hd hj Kq hK
                  rw [if_pos (wanted_none rfl)]
                  have f83 := hj.val 8 83 rfl rfl (by simp) rfl (hd ⟨8, .data⟩ (by simp) rfl)
                  exact opCall hK Try.func16 (by kernel_rfl) rfl (args := #[.int .i64 q.vote, .int .i64 (-1), .int .i64 6]) (by simp [ev f83]) ((within_neg q.vote (-1) 6 _ HOK.out.2.2.1 (by decide) (by decide) (by decide)).mono fun e w' ⟨h1, h2⟩ => ⟨_, h1, congrArg (Value.int .i64) HWV.out.symm, h2 ▸ Ext.refl _ _⟩)),
                trivial⟩ ?fin
              case fin =>
                intro vs w9 hx hg
                have v0 : vs 0 = _ := hg 0 (by decide)
                have v6 : vs 6 = _ := hg 6 (by decide)
                have v9 : vs 9 = _ := hg 9 (by decide)
                have X := Lib.hid ((Ext.refl None_ _).drew.trans0 hx)
                clear hx hg e1 e2
                simp only [List.dropLast, List.getLast?, List.getLast, Option.toList, putAll, v0, v6, v9, Nat.reduceAdd, Nat.zero_add]
                simp only [Act.put, List.setIfInBounds_toArray, List.set_cons_succ, List.set_cons_zero]
                have HM9 : Hid (MetaB w9 gm g m.file m.r) := Lib.hid (Blk.ext HMR.out X.out (fun a => a))
                have HL9 := Lib.hid (HLR.out.ext0 X.out)
                clear HMR HLR X v0 v6 v9
                by_cases et : m3.r.term = m.r.term
                · by_cases ev : m.r.vote = -1
                  · clear o7
                    go_wp2_with (first
                      | (go_at_call 20; refine (mSet_any w gm g (armD D q.n) m.file m.r (m.r.term + WT) WV _ HL9.out HM9.out hgm.out hfl (by omega) (by unfold I64; omega) (by unfold I64; omega) (by have := HWL.out; omega)).mono ?_; rintro e wS h1; have h1 : SetP w gm g (setM (armD D q.n) m (m.r.term + WT) WV) e wS := h1; rw [← HST.out] at h1; unfold SetP at h1; simp only at h1; obtain ⟨rfl, h2, h3⟩ := h1; have HM0 := Lib.hid h3; have HL0 := Lib.hid h2; clear h2 h3 HL9 HM9)
                      | (go_at_call 18; refine (mTerm_any gm g _ _ _ HM0.out).mono ?_; rintro e wT ⟨rfl, hx⟩; have HL1 := Lib.hid (HL0.out.ext0 hx); have HM1 := Lib.hid (meta_keep (w0 := w) HM0.out (ofQ hx)); clear hx HL0 HM0)
                      | (go_at_call 19; refine (mVote_any gm g _ _ _ HM1.out).mono ?_; rintro e wV ⟨rfl, hx⟩; have HL2 := Lib.hid (HL1.out.ext0 hx); have HM2 := Lib.hid (meta_keep (w0 := w) HM1.out (ofQ hx)); clear hx HL1 HM1))
                    go_roundw
                    case rel => exact ⟨i + 1, g, gm, _, m3, rfl, rfl, (by first | rfl | rw [et]), (by first | rfl | rw [ew]), by go_num, by omega, Lib.hid HI3.out, hgm, HM2, HL2⟩
                    case measure => simp [intOf]; omega
                  · have ew := o7 et ev
                    clear o7
                    go_wp2_with (first
                      | (go_at_call 20; refine (mSet_any w gm g (armD D q.n) m.file m.r (m.r.term + WT) WV _ HL9.out HM9.out hgm.out hfl (by omega) (by unfold I64; omega) (by unfold I64; omega) (by have := HWL.out; omega)).mono ?_; rintro e wS h1; have h1 : SetP w gm g (setM (armD D q.n) m (m.r.term + WT) WV) e wS := h1; rw [← HST.out] at h1; unfold SetP at h1; simp only at h1; obtain ⟨rfl, h2, h3⟩ := h1; have HM0 := Lib.hid h3; have HL0 := Lib.hid h2; clear h2 h3 HL9 HM9)
                      | (go_at_call 18; refine (mTerm_any gm g _ _ _ HM0.out).mono ?_; rintro e wT ⟨rfl, hx⟩; have HL1 := Lib.hid (HL0.out.ext0 hx); have HM1 := Lib.hid (meta_keep (w0 := w) HM0.out (ofQ hx)); clear hx HL0 HM0)
                      | (go_at_call 19; refine (mVote_any gm g _ _ _ HM1.out).mono ?_; rintro e wV ⟨rfl, hx⟩; have HL2 := Lib.hid (HL1.out.ext0 hx); have HM2 := Lib.hid (meta_keep (w0 := w) HM1.out (ofQ hx)); clear hx HL1 HM1))
                    go_roundw
                    case rel => exact ⟨i + 1, g, gm, _, m3, rfl, rfl, (by first | rfl | rw [et]), (by first | rfl | rw [ew]), by go_num, by omega, Lib.hid HI3.out, hgm, HM2, HL2⟩
                    case measure => simp [intOf]; omega
                · clear o7
                  go_wp2_with (first
                    | (go_at_call 20; refine (mSet_any w gm g (armD D q.n) m.file m.r (m.r.term + WT) WV _ HL9.out HM9.out hgm.out hfl (by omega) (by unfold I64; omega) (by unfold I64; omega) (by have := HWL.out; omega)).mono ?_; rintro e wS h1; have h1 : SetP w gm g (setM (armD D q.n) m (m.r.term + WT) WV) e wS := h1; rw [← HST.out] at h1; unfold SetP at h1; simp only at h1; obtain ⟨rfl, h2, h3⟩ := h1; have HM0 := Lib.hid h3; have HL0 := Lib.hid h2; clear h2 h3 HL9 HM9)
                    | (go_at_call 18; refine (mTerm_any gm g _ _ _ HM0.out).mono ?_; rintro e wT ⟨rfl, hx⟩; have HL1 := Lib.hid (HL0.out.ext0 hx); have HM1 := Lib.hid (meta_keep (w0 := w) HM0.out (ofQ hx)); clear hx HL0 HM0)
                    | (go_at_call 19; refine (mVote_any gm g _ _ _ HM1.out).mono ?_; rintro e wV ⟨rfl, hx⟩; have HL2 := Lib.hid (HL1.out.ext0 hx); have HM2 := Lib.hid (meta_keep (w0 := w) HM1.out (ofQ hx)); clear hx HL1 HM1))
                  go_roundw
                  case rel => exact ⟨i + 1, g, gm, _, m3, rfl, rfl, (by first | rfl | rw [et]), (by first | rfl | rw [ew]), by go_num, by omega, Lib.hid HI3.out, hgm, HM2, HL2⟩
                  case measure => simp [intOf]; omega
            · have hk2 : q.kind = 2 := by omega
              have hb1 : (q.kind == 1) = false := by simp [hk1]
              have hb2 : (q.kind == 2) = true := by simp [hk2]
              have hfa := fit_age hinv.out.fit
              have hga := hinv.out.age
              have hfl := hinv.out.fit.fl
              have HWL := Lib.hid hinv.out.wl
              obtain ⟨WT, hWT⟩ : ∃ x, x = within q.term (-1) 2 := ⟨_, rfl⟩
              obtain ⟨WV, hWV⟩ : ∃ x, x = within q.vote (-1) 6 := ⟨_, rfl⟩
              have hwt : -1 ≤ WT ∧ WT ≤ 2 := by rw [hWT]; exact within_rng _ _ _ (by decide)
              have hwv : -1 ≤ WV ∧ WV ≤ 6 := by rw [hWV]; exact within_rng _ _ _ (by decide)
              have HWT := Lib.hid hWT
              have HWV := Lib.hid hWV
              clear hWT hWV
              have hsi := set_inv (m.r.term + WT) WV hinv.out (by omega)
              obtain ⟨⟨ys, D3, m3⟩, hst⟩ : ∃ x, x = setM D m (m.r.term + WT) WV := ⟨_, rfl⟩
              rw [← hst] at hsi
              simp only at hsi
              obtain ⟨hi3, hm3⟩ := hsi
              obtain ⟨o6, o7⟩ := once_test hm3
              have HST := Lib.hid hst
              have HI3 := Lib.hid hi3
              clear hst hi3 hm3
              obtain ⟨b0, b1, b2, b3, b4⟩ := hfa
              go_wp2_with fail
              have HMR := Lib.hid (Blk.ext hmb.out (x0 wr (.cells #[.int .i64 2, .int .i64 q.term, .int .i64 q.vote, .int .i64 q.n, .int .i64 q.keep, .int .i64 q.torn, .bool q.raw] 38)) (fun a => a))
              have HLR := Lib.hid (hlw.out.ext0 (x0 wr (.cells #[.int .i64 2, .int .i64 q.term, .int .i64 q.vote, .int .i64 q.n, .int .i64 q.keep, .int .i64 q.torn, .bool q.raw] 38)))
              have e1 := Blk.cell (Blk.new wr #[.int .i64 2, .int .i64 q.term, .int .i64 q.vote, .int .i64 q.n, .int .i64 q.keep, .int .i64 q.torn, .bool q.raw] 38) 1
              have e2 := Blk.cell (Blk.new wr #[.int .i64 2, .int .i64 q.term, .int .i64 q.vote, .int .i64 q.n, .int .i64 q.keep, .int .i64 q.torn, .bool q.raw] 38) 2
              refine wp_region_last [sv _, sv _, sv (.int .i64 m.r.term), sv _, sv _, sv (.int .i64 WT), sv _, sv _, sv _, sv (.int .i64 WV)] (by kernel_rfl) rfl rfl rfl rfl rfl (by decide) ⟨
                (by
                  intro Lq aq wq hd hj Kq hK
                  rw [if_pos (wanted_none rfl)]
                  have f5 := hj.base 5 rfl rfl
                  exact opMove hK rfl (ev f5) rfl),
                (by
                  intro Lq aq wq hd hj Kq hK
                  rw [if_pos (wanted_none rfl)]
                  have f5 := hj.base 5 rfl rfl
                  exact opMove hK rfl (ev f5) rfl),
                (by
                  intro Lq aq wq hd hj Kq hK
                  rw [if_pos (wanted_none rfl)]
                  have f76 := hj.val 1 76 rfl rfl (by simp) rfl (hd ⟨1, .data⟩ (by simp) rfl)
                  exact opCall hK Try.func18 (by kernel_rfl) rfl (args := #[.pointer (some ⟨gm, 0, none⟩)]) (by simp [ev f76]) ((mTerm_any gm g _ _ _ (Blk.ext HMR.out ((Ext.refl None_ _).drew.trans0 hj.ext) (fun a => a))).mono fun e w' ⟨h1, h2⟩ => ⟨_, h1, rfl, h2⟩)),
                (by
                  intro Lq aq wq hd hj Kq hK
                  rw [if_pos (wanted_none rfl)]
                  have f9 := hj.base 9 rfl rfl
                  exact opFieldA hK rfl (k := 1) (ev f9) (fun W => by kernel_rfl) rfl),
                (by
                  intro Lq aq wq hd hj Kq hK
                  rw [if_pos (wanted_none rfl)]
                  have f78 := hj.val 3 78 rfl rfl (by simp) rfl (hd ⟨3, .data⟩ (by simp) rfl)
                  first
                    | exact opLoad hK rfl (ev f78) Try.underlying3 rfl (Ext.cell ((Ext.refl None_ _).drew.trans0 hj.ext) e1 (fun a => a)) rfl
                    | exact opLoad hK rfl (ev f78) Try.underlying3 rfl (Ext.cell ((Ext.refl None_ _).drew.trans0 hj.ext) e2 (fun a => a)) rfl),
                (by
                  intro Lq aq wq hd hj Kq hK
                  rw [if_pos (wanted_none rfl)]
                  have f79 := hj.val 4 79 rfl rfl (by simp) rfl (hd ⟨4, .data⟩ (by simp) rfl)
                  exact opCall hK Try.func16 (by kernel_rfl) rfl (args := #[.int .i64 q.term, .int .i64 (-1), .int .i64 2]) (by simp [ev f79]) ((within_neg q.term (-1) 2 _ HOK.out.2.1 (by decide) (by decide) (by decide)).mono fun e w' ⟨h1, h2⟩ => ⟨_, h1, congrArg (Value.int .i64) HWT.out.symm, h2 ▸ Ext.refl _ _⟩)),
                (by
                  intro Lq aq wq hd hj Kq hK
                  rw [if_pos (wanted_none rfl)]
                  have f77 := hj.val 2 77 rfl rfl (by simp) rfl (hd ⟨2, .data⟩ (by simp) rfl)
                  have f80 := hj.val 5 80 rfl rfl (by simp) rfl (hd ⟨5, .data⟩ (by simp) rfl)
                  exact opBin hK rfl (ev f77) (ev f80) (guardInt _ _ _ _ _ _ _ _ _) (binAdd _ _ _ _ (IntWalk.i64_in _ (by omega))) rfl),
                (by
                  intro Lq aq wq hd hj Kq hK
                  rw [if_pos (wanted_none rfl)]
                  have f9 := hj.base 9 rfl rfl
                  exact opFieldA hK rfl (k := 2) (ev f9) (fun W => by kernel_rfl) rfl),
                (by
                  intro Lq aq wq hd hj Kq hK
                  rw [if_pos (wanted_none rfl)]
                  have f82 := hj.val 7 82 rfl rfl (by simp) rfl (hd ⟨7, .data⟩ (by simp) rfl)
                  first
                    | exact opLoad hK rfl (ev f82) Try.underlying3 rfl (Ext.cell ((Ext.refl None_ _).drew.trans0 hj.ext) e1 (fun a => a)) rfl
                    | exact opLoad hK rfl (ev f82) Try.underlying3 rfl (Ext.cell ((Ext.refl None_ _).drew.trans0 hj.ext) e2 (fun a => a)) rfl),
                (by
                  intro Lq aq wq hd hj Kq hK
                  rw [if_pos (wanted_none rfl)]
                  have f83 := hj.val 8 83 rfl rfl (by simp) rfl (hd ⟨8, .data⟩ (by simp) rfl)
                  exact opCall hK Try.func16 (by kernel_rfl) rfl (args := #[.int .i64 q.vote, .int .i64 (-1), .int .i64 6]) (by simp [ev f83]) ((within_neg q.vote (-1) 6 _ HOK.out.2.2.1 (by decide) (by decide) (by decide)).mono fun e w' ⟨h1, h2⟩ => ⟨_, h1, congrArg (Value.int .i64) HWV.out.symm, h2 ▸ Ext.refl _ _⟩)),
                trivial⟩ ?fin
              case fin =>
                intro vs w9 hx hg
                have v0 : vs 0 = _ := hg 0 (by decide)
                have v6 : vs 6 = _ := hg 6 (by decide)
                have v9 : vs 9 = _ := hg 9 (by decide)
                have X := Lib.hid ((Ext.refl None_ _).drew.trans0 hx)
                clear hx hg e1 e2
                simp only [List.dropLast, List.getLast?, List.getLast, Option.toList, putAll, v0, v6, v9, Nat.reduceAdd, Nat.zero_add]
                simp only [Act.put, List.setIfInBounds_toArray, List.set_cons_succ, List.set_cons_zero]
                have HM9 : Hid (MetaB w9 gm g m.file m.r) := Lib.hid (Blk.ext HMR.out X.out (fun a => a))
                have HL9 := Lib.hid (HLR.out.ext0 X.out)
                clear HMR HLR X v0 v6 v9
                by_cases et : m3.r.term = m.r.term
                · by_cases ev : m.r.vote = -1
                  · clear o7
                    go_wp2_with (first
                      | (go_at_call 20; refine (mSet_any w gm g D m.file m.r (m.r.term + WT) WV _ HL9.out HM9.out hgm.out hfl (by omega) (by unfold I64; omega) (by unfold I64; omega) (by have := HWL.out; omega)).mono ?_; rintro e wS h1; have h1 : SetP w gm g (setM D m (m.r.term + WT) WV) e wS := h1; rw [← HST.out] at h1; unfold SetP at h1; simp only at h1; obtain ⟨rfl, h2, h3⟩ := h1; have HM0 := Lib.hid h3; have HL0 := Lib.hid h2; clear h2 h3 HL9 HM9)
                      | (go_at_call 18; refine (mTerm_any gm g _ _ _ HM0.out).mono ?_; rintro e wT ⟨rfl, hx⟩; have HL1 := Lib.hid (HL0.out.ext0 hx); have HM1 := Lib.hid (meta_keep (w0 := w) HM0.out (ofQ hx)); clear hx HL0 HM0)
                      | (go_at_call 19; refine (mVote_any gm g _ _ _ HM1.out).mono ?_; rintro e wV ⟨rfl, hx⟩; have HL2 := Lib.hid (HL1.out.ext0 hx); have HM2 := Lib.hid (meta_keep (w0 := w) HM1.out (ofQ hx)); clear hx HL1 HM1))
                    go_roundw
                    case rel => exact ⟨i + 1, g, gm, _, m3, rfl, rfl, (by first | rfl | rw [et]), (by first | rfl | rw [ew]), by go_num, by omega, Lib.hid HI3.out, hgm, HM2, HL2⟩
                    case measure => simp [intOf]; omega
                  · have ew := o7 et ev
                    clear o7
                    go_wp2_with (first
                      | (go_at_call 20; refine (mSet_any w gm g D m.file m.r (m.r.term + WT) WV _ HL9.out HM9.out hgm.out hfl (by omega) (by unfold I64; omega) (by unfold I64; omega) (by have := HWL.out; omega)).mono ?_; rintro e wS h1; have h1 : SetP w gm g (setM D m (m.r.term + WT) WV) e wS := h1; rw [← HST.out] at h1; unfold SetP at h1; simp only at h1; obtain ⟨rfl, h2, h3⟩ := h1; have HM0 := Lib.hid h3; have HL0 := Lib.hid h2; clear h2 h3 HL9 HM9)
                      | (go_at_call 18; refine (mTerm_any gm g _ _ _ HM0.out).mono ?_; rintro e wT ⟨rfl, hx⟩; have HL1 := Lib.hid (HL0.out.ext0 hx); have HM1 := Lib.hid (meta_keep (w0 := w) HM0.out (ofQ hx)); clear hx HL0 HM0)
                      | (go_at_call 19; refine (mVote_any gm g _ _ _ HM1.out).mono ?_; rintro e wV ⟨rfl, hx⟩; have HL2 := Lib.hid (HL1.out.ext0 hx); have HM2 := Lib.hid (meta_keep (w0 := w) HM1.out (ofQ hx)); clear hx HL1 HM1))
                    go_roundw
                    case rel => exact ⟨i + 1, g, gm, _, m3, rfl, rfl, (by first | rfl | rw [et]), (by first | rfl | rw [ew]), by go_num, by omega, Lib.hid HI3.out, hgm, HM2, HL2⟩
                    case measure => simp [intOf]; omega
                · clear o7
                  go_wp2_with (first
                    | (go_at_call 20; refine (mSet_any w gm g D m.file m.r (m.r.term + WT) WV _ HL9.out HM9.out hgm.out hfl (by omega) (by unfold I64; omega) (by unfold I64; omega) (by have := HWL.out; omega)).mono ?_; rintro e wS h1; have h1 : SetP w gm g (setM D m (m.r.term + WT) WV) e wS := h1; rw [← HST.out] at h1; unfold SetP at h1; simp only at h1; obtain ⟨rfl, h2, h3⟩ := h1; have HM0 := Lib.hid h3; have HL0 := Lib.hid h2; clear h2 h3 HL9 HM9)
                    | (go_at_call 18; refine (mTerm_any gm g _ _ _ HM0.out).mono ?_; rintro e wT ⟨rfl, hx⟩; have HL1 := Lib.hid (HL0.out.ext0 hx); have HM1 := Lib.hid (meta_keep (w0 := w) HM0.out (ofQ hx)); clear hx HL0 HM0)
                    | (go_at_call 19; refine (mVote_any gm g _ _ _ HM1.out).mono ?_; rintro e wV ⟨rfl, hx⟩; have HL2 := Lib.hid (HL1.out.ext0 hx); have HM2 := Lib.hid (meta_keep (w0 := w) HM1.out (ofQ hx)); clear hx HL1 HM1))
                  go_roundw
                  case rel => exact ⟨i + 1, g, gm, _, m3, rfl, rfl, (by first | rfl | rw [et]), (by first | rfl | rw [ew]), by go_num, by omega, Lib.hid HI3.out, hgm, HM2, HL2⟩
                  case measure => simp [intOf]; omega
          · have hk2 : q.kind = 2 := by omega
            have hb1 : (q.kind == 1) = false := by simp [hk1]
            have hb2 : (q.kind == 2) = true := by simp [hk2]
            have hfa := fit_age hinv.out.fit
            have hga := hinv.out.age
            have hfl := hinv.out.fit.fl
            have HWL := Lib.hid hinv.out.wl
            obtain ⟨WT, hWT⟩ : ∃ x, x = within q.term (-1) 2 := ⟨_, rfl⟩
            obtain ⟨WV, hWV⟩ : ∃ x, x = within q.vote (-1) 6 := ⟨_, rfl⟩
            have hwt : -1 ≤ WT ∧ WT ≤ 2 := by rw [hWT]; exact within_rng _ _ _ (by decide)
            have hwv : -1 ≤ WV ∧ WV ≤ 6 := by rw [hWV]; exact within_rng _ _ _ (by decide)
            have HWT := Lib.hid hWT
            have HWV := Lib.hid hWV
            clear hWT hWV
            have hsi := set_inv (m.r.term + WT) WV hinv.out (by omega)
            obtain ⟨⟨ys, D3, m3⟩, hst⟩ : ∃ x, x = setM D m (m.r.term + WT) WV := ⟨_, rfl⟩
            rw [← hst] at hsi
            simp only at hsi
            obtain ⟨hi3, hm3⟩ := hsi
            obtain ⟨o6, o7⟩ := once_test hm3
            have HST := Lib.hid hst
            have HI3 := Lib.hid hi3
            clear hst hi3 hm3
            obtain ⟨b0, b1, b2, b3, b4⟩ := hfa
            go_wp2_with fail
            have HMR := Lib.hid (Blk.ext hmb.out (x0 wr (.cells #[.int .i64 2, .int .i64 q.term, .int .i64 q.vote, .int .i64 q.n, .int .i64 q.keep, .int .i64 q.torn, .bool q.raw] 38)) (fun a => a))
            have HLR := Lib.hid (hlw.out.ext0 (x0 wr (.cells #[.int .i64 2, .int .i64 q.term, .int .i64 q.vote, .int .i64 q.n, .int .i64 q.keep, .int .i64 q.torn, .bool q.raw] 38)))
            have e1 := Blk.cell (Blk.new wr #[.int .i64 2, .int .i64 q.term, .int .i64 q.vote, .int .i64 q.n, .int .i64 q.keep, .int .i64 q.torn, .bool q.raw] 38) 1
            have e2 := Blk.cell (Blk.new wr #[.int .i64 2, .int .i64 q.term, .int .i64 q.vote, .int .i64 q.n, .int .i64 q.keep, .int .i64 q.torn, .bool q.raw] 38) 2
            refine wp_region_last [sv _, sv _, sv (.int .i64 m.r.term), sv _, sv _, sv (.int .i64 WT), sv _, sv _, sv _, sv (.int .i64 WV)] (by kernel_rfl) rfl rfl rfl rfl rfl (by decide) ⟨
              (by
                intro Lq aq wq hd hj Kq hK
                rw [if_pos (wanted_none rfl)]
                have f5 := hj.base 5 rfl rfl
                exact opMove hK rfl (ev f5) rfl),
              (by
                intro Lq aq wq hd hj Kq hK
                rw [if_pos (wanted_none rfl)]
                have f5 := hj.base 5 rfl rfl
                exact opMove hK rfl (ev f5) rfl),
              (by
                intro Lq aq wq hd hj Kq hK
                rw [if_pos (wanted_none rfl)]
                have f76 := hj.val 1 76 rfl rfl (by simp) rfl (hd ⟨1, .data⟩ (by simp) rfl)
                exact opCall hK Try.func18 (by kernel_rfl) rfl (args := #[.pointer (some ⟨gm, 0, none⟩)]) (by simp [ev f76]) ((mTerm_any gm g _ _ _ (Blk.ext HMR.out ((Ext.refl None_ _).drew.trans0 hj.ext) (fun a => a))).mono fun e w' ⟨h1, h2⟩ => ⟨_, h1, rfl, h2⟩)),
              (by
                intro Lq aq wq hd hj Kq hK
                rw [if_pos (wanted_none rfl)]
                have f9 := hj.base 9 rfl rfl
                exact opFieldA hK rfl (k := 1) (ev f9) (fun W => by kernel_rfl) rfl),
              (by
                intro Lq aq wq hd hj Kq hK
                rw [if_pos (wanted_none rfl)]
                have f78 := hj.val 3 78 rfl rfl (by simp) rfl (hd ⟨3, .data⟩ (by simp) rfl)
                first
                  | exact opLoad hK rfl (ev f78) Try.underlying3 rfl (Ext.cell ((Ext.refl None_ _).drew.trans0 hj.ext) e1 (fun a => a)) rfl
                  | exact opLoad hK rfl (ev f78) Try.underlying3 rfl (Ext.cell ((Ext.refl None_ _).drew.trans0 hj.ext) e2 (fun a => a)) rfl),
              (by
                intro Lq aq wq hd hj Kq hK
                rw [if_pos (wanted_none rfl)]
                have f79 := hj.val 4 79 rfl rfl (by simp) rfl (hd ⟨4, .data⟩ (by simp) rfl)
                exact opCall hK Try.func16 (by kernel_rfl) rfl (args := #[.int .i64 q.term, .int .i64 (-1), .int .i64 2]) (by simp [ev f79]) ((within_neg q.term (-1) 2 _ HOK.out.2.1 (by decide) (by decide) (by decide)).mono fun e w' ⟨h1, h2⟩ => ⟨_, h1, congrArg (Value.int .i64) HWT.out.symm, h2 ▸ Ext.refl _ _⟩)),
              (by
                intro Lq aq wq hd hj Kq hK
                rw [if_pos (wanted_none rfl)]
                have f77 := hj.val 2 77 rfl rfl (by simp) rfl (hd ⟨2, .data⟩ (by simp) rfl)
                have f80 := hj.val 5 80 rfl rfl (by simp) rfl (hd ⟨5, .data⟩ (by simp) rfl)
                exact opBin hK rfl (ev f77) (ev f80) (guardInt _ _ _ _ _ _ _ _ _) (binAdd _ _ _ _ (IntWalk.i64_in _ (by omega))) rfl),
              (by
                intro Lq aq wq hd hj Kq hK
                rw [if_pos (wanted_none rfl)]
                have f9 := hj.base 9 rfl rfl
                exact opFieldA hK rfl (k := 2) (ev f9) (fun W => by kernel_rfl) rfl),
              (by
                intro Lq aq wq hd hj Kq hK
                rw [if_pos (wanted_none rfl)]
                have f82 := hj.val 7 82 rfl rfl (by simp) rfl (hd ⟨7, .data⟩ (by simp) rfl)
                first
                  | exact opLoad hK rfl (ev f82) Try.underlying3 rfl (Ext.cell ((Ext.refl None_ _).drew.trans0 hj.ext) e1 (fun a => a)) rfl
                  | exact opLoad hK rfl (ev f82) Try.underlying3 rfl (Ext.cell ((Ext.refl None_ _).drew.trans0 hj.ext) e2 (fun a => a)) rfl),
              (by
                intro Lq aq wq hd hj Kq hK
                rw [if_pos (wanted_none rfl)]
                have f83 := hj.val 8 83 rfl rfl (by simp) rfl (hd ⟨8, .data⟩ (by simp) rfl)
                exact opCall hK Try.func16 (by kernel_rfl) rfl (args := #[.int .i64 q.vote, .int .i64 (-1), .int .i64 6]) (by simp [ev f83]) ((within_neg q.vote (-1) 6 _ HOK.out.2.2.1 (by decide) (by decide) (by decide)).mono fun e w' ⟨h1, h2⟩ => ⟨_, h1, congrArg (Value.int .i64) HWV.out.symm, h2 ▸ Ext.refl _ _⟩)),
              trivial⟩ ?fin
            case fin =>
              intro vs w9 hx hg
              have v0 : vs 0 = _ := hg 0 (by decide)
              have v6 : vs 6 = _ := hg 6 (by decide)
              have v9 : vs 9 = _ := hg 9 (by decide)
              have X := Lib.hid ((Ext.refl None_ _).drew.trans0 hx)
              clear hx hg e1 e2
              simp only [List.dropLast, List.getLast?, List.getLast, Option.toList, putAll, v0, v6, v9, Nat.reduceAdd, Nat.zero_add]
              simp only [Act.put, List.setIfInBounds_toArray, List.set_cons_succ, List.set_cons_zero]
              have HM9 : Hid (MetaB w9 gm g m.file m.r) := Lib.hid (Blk.ext HMR.out X.out (fun a => a))
              have HL9 := Lib.hid (HLR.out.ext0 X.out)
              clear HMR HLR X v0 v6 v9
              by_cases et : m3.r.term = m.r.term
              · by_cases ev : m.r.vote = -1
                · clear o7
                  go_wp2_with (first
                    | (go_at_call 20; refine (mSet_any w gm g D m.file m.r (m.r.term + WT) WV _ HL9.out HM9.out hgm.out hfl (by omega) (by unfold I64; omega) (by unfold I64; omega) (by have := HWL.out; omega)).mono ?_; rintro e wS h1; have h1 : SetP w gm g (setM D m (m.r.term + WT) WV) e wS := h1; rw [← HST.out] at h1; unfold SetP at h1; simp only at h1; obtain ⟨rfl, h2, h3⟩ := h1; have HM0 := Lib.hid h3; have HL0 := Lib.hid h2; clear h2 h3 HL9 HM9)
                    | (go_at_call 18; refine (mTerm_any gm g _ _ _ HM0.out).mono ?_; rintro e wT ⟨rfl, hx⟩; have HL1 := Lib.hid (HL0.out.ext0 hx); have HM1 := Lib.hid (meta_keep (w0 := w) HM0.out (ofQ hx)); clear hx HL0 HM0)
                    | (go_at_call 19; refine (mVote_any gm g _ _ _ HM1.out).mono ?_; rintro e wV ⟨rfl, hx⟩; have HL2 := Lib.hid (HL1.out.ext0 hx); have HM2 := Lib.hid (meta_keep (w0 := w) HM1.out (ofQ hx)); clear hx HL1 HM1))
                  go_roundw
                  case rel => exact ⟨i + 1, g, gm, _, m3, rfl, rfl, (by first | rfl | rw [et]), (by first | rfl | rw [ew]), by go_num, by omega, Lib.hid HI3.out, hgm, HM2, HL2⟩
                  case measure => simp [intOf]; omega
                · have ew := o7 et ev
                  clear o7
                  go_wp2_with (first
                    | (go_at_call 20; refine (mSet_any w gm g D m.file m.r (m.r.term + WT) WV _ HL9.out HM9.out hgm.out hfl (by omega) (by unfold I64; omega) (by unfold I64; omega) (by have := HWL.out; omega)).mono ?_; rintro e wS h1; have h1 : SetP w gm g (setM D m (m.r.term + WT) WV) e wS := h1; rw [← HST.out] at h1; unfold SetP at h1; simp only at h1; obtain ⟨rfl, h2, h3⟩ := h1; have HM0 := Lib.hid h3; have HL0 := Lib.hid h2; clear h2 h3 HL9 HM9)
                    | (go_at_call 18; refine (mTerm_any gm g _ _ _ HM0.out).mono ?_; rintro e wT ⟨rfl, hx⟩; have HL1 := Lib.hid (HL0.out.ext0 hx); have HM1 := Lib.hid (meta_keep (w0 := w) HM0.out (ofQ hx)); clear hx HL0 HM0)
                    | (go_at_call 19; refine (mVote_any gm g _ _ _ HM1.out).mono ?_; rintro e wV ⟨rfl, hx⟩; have HL2 := Lib.hid (HL1.out.ext0 hx); have HM2 := Lib.hid (meta_keep (w0 := w) HM1.out (ofQ hx)); clear hx HL1 HM1))
                  go_roundw
                  case rel => exact ⟨i + 1, g, gm, _, m3, rfl, rfl, (by first | rfl | rw [et]), (by first | rfl | rw [ew]), by go_num, by omega, Lib.hid HI3.out, hgm, HM2, HL2⟩
                  case measure => simp [intOf]; omega
              · clear o7
                go_wp2_with (first
                  | (go_at_call 20; refine (mSet_any w gm g D m.file m.r (m.r.term + WT) WV _ HL9.out HM9.out hgm.out hfl (by omega) (by unfold I64; omega) (by unfold I64; omega) (by have := HWL.out; omega)).mono ?_; rintro e wS h1; have h1 : SetP w gm g (setM D m (m.r.term + WT) WV) e wS := h1; rw [← HST.out] at h1; unfold SetP at h1; simp only at h1; obtain ⟨rfl, h2, h3⟩ := h1; have HM0 := Lib.hid h3; have HL0 := Lib.hid h2; clear h2 h3 HL9 HM9)
                  | (go_at_call 18; refine (mTerm_any gm g _ _ _ HM0.out).mono ?_; rintro e wT ⟨rfl, hx⟩; have HL1 := Lib.hid (HL0.out.ext0 hx); have HM1 := Lib.hid (meta_keep (w0 := w) HM0.out (ofQ hx)); clear hx HL0 HM0)
                  | (go_at_call 19; refine (mVote_any gm g _ _ _ HM1.out).mono ?_; rintro e wV ⟨rfl, hx⟩; have HL2 := Lib.hid (HL1.out.ext0 hx); have HM2 := Lib.hid (meta_keep (w0 := w) HM1.out (ofQ hx)); clear hx HL1 HM1))
                go_roundw
                case rel => exact ⟨i + 1, g, gm, _, m3, rfl, rfl, (by first | rfl | rw [et]), (by first | rfl | rw [ew]), by go_num, by omega, Lib.hid HI3.out, hgm, HM2, HL2⟩
                case measure => simp [intOf]; omega
      · have hk1 : q.kind ≠ 1 := fun h => hk (.inl h)
        have hk2 : q.kind ≠ 2 := fun h => hk (.inr h)
        have hb1 : (q.kind == 1) = false := by simp [hk1]
        have hb2 : (q.kind == 2) = false := by simp [hk2]
        clear hk
        obtain ⟨m', o1, o2, o3, o4⟩ := crash_open hinv.out (by omega) q.keep q.torn
        have o5 := once_test (m := m) (m' := m') (t := m'.r.term) (v := m'.r.vote) (by
          rcases o4 with h | ⟨t, v, h, may⟩
          · exact .inl h
          · exact .inr ⟨by rw [h], by rw [h]; exact may⟩)
        obtain ⟨o6, o7⟩ := o5
        have O1 := Lib.hid o1
        have O2 := Lib.hid o2
        have O3 := Lib.hid o3
        have HWL := Lib.hid hinv.out.wl
        have HO3L := Lib.hid o3.wl
        clear o1 o2 o3 o4
        by_cases et : m'.r.term = m.r.term
        · by_cases ev : m.r.vote = -1
          · clear o7
            go_wp2_with (first
              | (go_at_call 22; refine (lw_crash (hlw.out.ext0 (x0 wr _)) q.keep q.torn HOK.out.2.2.2.2.1 (by have := HWL.out; omega)).mono ?_; rintro e wE ⟨g2, rfl, _, h3⟩; have HB : Hid (Lw w (GM gm) [] g2 (crashD D q.keep q.torn) wE) := Lib.hid (Lw.sub h3 (fun _ h => h) (fun _ h => by simp at h)); clear h3 HWL)
              | (go_at_call 17; refine (open_anyM w (GM gm) [] g2 _ _ HB.out (by have := HO3L.out; omega)).mono ?_; rintro e wC h3; unfold OpenP at h3; rw [if_pos (by rw [O1.out]), O1.out, O2.out] at h3; simp only at h3; obtain ⟨gm2, rfl, h4, h5, h6⟩ := h3; have HM0 := Lib.hid h4; have HL0 : Hid (Lw w (GM gm2) [] g2 (crashD D q.keep q.torn) wC) := Lib.hid (Lw.sub h5 (fun r h => by rw [List.mem_singleton.1 h]; exact List.mem_cons_self ..) (fun _ h => h)); have HG := Lib.hid h6; clear h4 h5 h6 HB)
              | (go_at_call 18; refine (mTerm_any gm2 g2 _ _ _ HM0.out).mono ?_; rintro e wT ⟨rfl, hx⟩; have HL1 := Lib.hid (HL0.out.ext0 hx); have HM1 := Lib.hid (meta_keep (w0 := w) HM0.out (ofQ hx)); clear hx HL0 HM0)
              | (go_at_call 19; refine (mVote_any gm2 g2 _ _ _ HM1.out).mono ?_; rintro e wV ⟨rfl, hx⟩; have HL2 := Lib.hid (HL1.out.ext0 hx); have HM2 := Lib.hid (meta_keep (w0 := w) HM1.out (ofQ hx)); clear hx HL1 HM1))
            go_roundw
            case rel => exact ⟨i + 1, g2, gm2, _, m', rfl, rfl, (by first | rfl | rw [et]), (by first | rfl | rw [ew]), by go_num, by omega, Lib.hid (O3.out.mono (by omega)), HG, HM2, HL2⟩
            case measure => simp [intOf]; omega
          · have ew := o7 et ev
            clear o7
            go_wp2_with (first
              | (go_at_call 22; refine (lw_crash (hlw.out.ext0 (x0 wr _)) q.keep q.torn HOK.out.2.2.2.2.1 (by have := HWL.out; omega)).mono ?_; rintro e wE ⟨g2, rfl, _, h3⟩; have HB : Hid (Lw w (GM gm) [] g2 (crashD D q.keep q.torn) wE) := Lib.hid (Lw.sub h3 (fun _ h => h) (fun _ h => by simp at h)); clear h3 HWL)
              | (go_at_call 17; refine (open_anyM w (GM gm) [] g2 _ _ HB.out (by have := HO3L.out; omega)).mono ?_; rintro e wC h3; unfold OpenP at h3; rw [if_pos (by rw [O1.out]), O1.out, O2.out] at h3; simp only at h3; obtain ⟨gm2, rfl, h4, h5, h6⟩ := h3; have HM0 := Lib.hid h4; have HL0 : Hid (Lw w (GM gm2) [] g2 (crashD D q.keep q.torn) wC) := Lib.hid (Lw.sub h5 (fun r h => by rw [List.mem_singleton.1 h]; exact List.mem_cons_self ..) (fun _ h => h)); have HG := Lib.hid h6; clear h4 h5 h6 HB)
              | (go_at_call 18; refine (mTerm_any gm2 g2 _ _ _ HM0.out).mono ?_; rintro e wT ⟨rfl, hx⟩; have HL1 := Lib.hid (HL0.out.ext0 hx); have HM1 := Lib.hid (meta_keep (w0 := w) HM0.out (ofQ hx)); clear hx HL0 HM0)
              | (go_at_call 19; refine (mVote_any gm2 g2 _ _ _ HM1.out).mono ?_; rintro e wV ⟨rfl, hx⟩; have HL2 := Lib.hid (HL1.out.ext0 hx); have HM2 := Lib.hid (meta_keep (w0 := w) HM1.out (ofQ hx)); clear hx HL1 HM1))
            go_roundw
            case rel => exact ⟨i + 1, g2, gm2, _, m', rfl, rfl, (by first | rfl | rw [et]), (by first | rfl | rw [ew]), by go_num, by omega, Lib.hid (O3.out.mono (by omega)), HG, HM2, HL2⟩
            case measure => simp [intOf]; omega
        · clear o7
          go_wp2_with (first
            | (go_at_call 22; refine (lw_crash (hlw.out.ext0 (x0 wr _)) q.keep q.torn HOK.out.2.2.2.2.1 (by have := HWL.out; omega)).mono ?_; rintro e wE ⟨g2, rfl, _, h3⟩; have HB : Hid (Lw w (GM gm) [] g2 (crashD D q.keep q.torn) wE) := Lib.hid (Lw.sub h3 (fun _ h => h) (fun _ h => by simp at h)); clear h3 HWL)
            | (go_at_call 17; refine (open_anyM w (GM gm) [] g2 _ _ HB.out (by have := HO3L.out; omega)).mono ?_; rintro e wC h3; unfold OpenP at h3; rw [if_pos (by rw [O1.out]), O1.out, O2.out] at h3; simp only at h3; obtain ⟨gm2, rfl, h4, h5, h6⟩ := h3; have HM0 := Lib.hid h4; have HL0 : Hid (Lw w (GM gm2) [] g2 (crashD D q.keep q.torn) wC) := Lib.hid (Lw.sub h5 (fun r h => by rw [List.mem_singleton.1 h]; exact List.mem_cons_self ..) (fun _ h => h)); have HG := Lib.hid h6; clear h4 h5 h6 HB)
            | (go_at_call 18; refine (mTerm_any gm2 g2 _ _ _ HM0.out).mono ?_; rintro e wT ⟨rfl, hx⟩; have HL1 := Lib.hid (HL0.out.ext0 hx); have HM1 := Lib.hid (meta_keep (w0 := w) HM0.out (ofQ hx)); clear hx HL0 HM0)
            | (go_at_call 19; refine (mVote_any gm2 g2 _ _ _ HM1.out).mono ?_; rintro e wV ⟨rfl, hx⟩; have HL2 := Lib.hid (HL1.out.ext0 hx); have HM2 := Lib.hid (meta_keep (w0 := w) HM1.out (ofQ hx)); clear hx HL1 HM1))
          go_roundw
          case rel => exact ⟨i + 1, g2, gm2, _, m', rfl, rfl, (by first | rfl | rw [et]), (by first | rfl | rw [ew]), by go_num, by omega, Lib.hid (O3.out.mono (by omega)), HG, HM2, HL2⟩
          case measure => simp [intOf]; omega
    · by_cases h1 : i < l.length
      · have h2 : ¬ i < 60 := fun h => hend ⟨h1, h⟩
        clear hend
        go_wp2_with (go_at_call 11; refine (MetaRuns_any _).mono ?_; rintro e wZ ⟨rfl, hx⟩; have HX := Lib.hid ((Lw.x hlw.out).trans0 hx); clear hx)
        go_ret
        exact ⟨rfl, HX.out⟩
      · clear hend
        go_wp2_with (go_at_call 11; refine (MetaRuns_any _).mono ?_; rintro e wZ ⟨rfl, hx⟩; have HX := Lib.hid ((Lw.x hlw.out).trans0 hx); clear hx)
        go_ret
        exact ⟨rfl, HX.out⟩
theorem MetaOnce_row (x : AmX) {w : World} (hx : x.ok w) : Calls Try.prog 4 #[x.v] w fun e w' => e = .returned (.bool true) ∧ Ext None_ w w' := MetaOnce_any x.2.1 x.2.2 x.1 w hx.1 hx.2
end Go.Proofs.Ytakcdmmniaipeaa
