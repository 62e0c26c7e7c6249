/- DiskAll, walked. Written by gen_disk18.py. -/
import Derived.Test.YtakcdmmniaipeaaDisk17
set_option linter.unusedVariables false
set_option linter.unusedSimpArgs false
namespace Go.Proofs.Ytakcdmmniaipeaa
open Go.RowKit B
theorem readF_congr {D D' : DS} (h1 : D.off = D'.off) (h2 : D.files = D'.files) (f : Int) : readF D f = readF D' f := by unfold readF; rw [h1, h2]
set_option maxRecDepth 100000 in
set_option maxHeartbeats 16000000 in
theorem DiskAll_any (A0 : Option Addr) (cap : Nat) (l0 : List (Ask × Option Addr × Nat)) (A3 : Option Addr) (cap3 : Nat) (l : List (Ask × Option Addr × Nat)) (w : World) (hl0 : Aks w A0 l0) (hlen0 : l0.length ≤ 140737488351232) (hl : Aks w A3 l) (hlen : l.length ≤ 140737488351232) : Calls Try.prog 7 #[.slice A0 l0.length cap, .slice A3 l.length cap3] w fun e w' => e = .returned (.bool true) ∧ Ext None_ w w' := by
  have HSO := Lib.hid (some_any A0 cap l0 w hl0 hlen0)
  have HL := Lib.hid hl
  have HR := Lib.hid (fun W => DiskRuns_any W)
  clear hl hl0
  go_enter Try.func7, Try.ntmps7
  go_wp2_with (first
    | (go_at_call 30; refine HSO.out.mono ?_; rintro e wA ⟨g, D, rfl, hsy, h1⟩; have HA := Lib.hid h1; obtain ⟨Ds, hds⟩ : ∃ Ds, Ds = crashD D (-1) (-1) := ⟨_, rfl⟩; obtain ⟨F, hF⟩ : ∃ F, F = D.files := ⟨_, rfl⟩; have HDS := Lib.hid hds; have HSF : Hid (Ds.files = F ∧ Ds.off = false) := Lib.hid (by rw [hds, hF]; exact ⟨(crash_nil hsy.wait _ _).trans hsy.safe, rfl⟩); have HKE : Hid (Kept F D) := Lib.hid (hF ▸ kept_of hsy); have HW0 : Hid (D.wait.length ≤ 0) := Lib.hid (by rw [hsy.wait]; exact Nat.le_refl _); clear h1 hsy HSO hds hF)
    | (go_at_call 22; refine (lw_crash HA.out (-1) (-1) (by unfold I64; omega) (by have := HW0.out; omega)).mono ?_; rintro e wB ⟨gs, rfl, h3, _⟩; rw [← HDS.out] at h3; have HB := Lib.hid h3; clear h3 HA))
  obtain ⟨D0, hD0⟩ : ∃ D0, D0 = D := ⟨_, rfl⟩
  rw [← hD0] at HB HKE HW0
  clear hD0 HDS
  go_loopw [7] (fun v7 wr => ∃ (i : Nat) (D : DS), v7 = .int .i64 i ∧ i ≤ 40 ∧ D.wait.length ≤ i ∧ Hid (Kept F D) ∧ Hid (Lw w [] [(gs, Ds)] g D wr)) (fun v7 _ => 40 - (intOf v7).toNat)
  case atStart => exact ⟨0, D0, rfl, by omega, HW0.out, HKE, HB⟩
  case round =>
    clear HB HW0 HKE
    obtain ⟨i, D, rfl, hi, hdw, hinv, hlw⟩ := hrel
    by_cases hend : i < l.length ∧ i < 40
    · obtain ⟨h1, h2⟩ := hend
      obtain ⟨q, hq⟩ : ∃ q, q = l[i] := ⟨_, rfl⟩
      obtain ⟨ad, hA0, ⟨k0, k1, k2, k3, k4⟩, hok⟩ := HL.out i q (by rw [hq]; exact List.getElem?_eq_getElem h1)
      subst hA0
      obtain ⟨⟨a, B, cb⟩, hq2⟩ : ∃ r : Ask × Option Addr × Nat, r = q := ⟨q, rfl⟩
      rw [← hq2] at k0 k1 k2 k3 k4 hok
      simp only at k0 k1 k2 k3 k4 hok
      have hx0 := (Lw.x hlw.out)
      have d0 := hx0.cell k0 (fun a => a)
      have d1 := hx0.cell k1 (fun a => a)
      have d2 := hx0.cell k2 (fun a => a)
      have d3 := hx0.cell k3 (fun a => a)
      have d4 := hx0.cell k4 (fun a => a)
      have HOK := Lib.hid hok
      have hi1 := hok.i1
      have hi2 := hok.i2
      have hdl := hok.len
      have HDAT : Hid (∀ W, Ext None_ w W → Row W B (B8 a.data)) := Lib.hid (fun W hx => HOK.out.row.ext0 hx)
      have HBW : Hid (∀ ad, B = some ad → 0 < a.data.length → ad.block < w.heap.size) := Lib.hid HOK.out.blk
      have HBY := Lib.hid HOK.out.byt
      clear hq hq2 k0 k1 k2 k3 k4 hx0 hok
      by_cases hk : a.kind = 1
      · rw [hk] at d0
        obtain ⟨n1, n4⟩ := kept_write hinv.out a.file a.at_ a.data
        go_wp2_with fail
        refine wp_region_last [sv _, sv _, sv _, sv (.pointer (some (ad.add (i * 5)))), sv _, sv _, sv _, sv _, sv (.pointer (some (ad.add (i * 5)))), sv _, sv _, sv _, sv _, sv (.pointer (some (ad.add (i * 5)))), sv _, sv _] (by kernel_rfl) rfl rfl rfl rfl rfl (by decide) ⟨
          (by
            intro Lq aq wq hd hj Kq hK
            rw [if_pos (wanted_none rfl)]
            have f5 := hj.base 5 rfl rfl
            exact opMove hK rfl (ev f5) rfl),
          (by
            intro Lq aq wq hd hj Kq hK
            rw [if_pos (wanted_none rfl)]
            have f1 := hj.base 1 rfl rfl
            exact opMove hK rfl (ev f1) rfl),
          (by
            intro Lq aq wq hd hj Kq hK
            rw [if_pos (wanted_none rfl)]
            have f7 := hj.base 7 rfl rfl
            exact opMove hK rfl (ev f7) rfl),
          (by
            intro Lq aq wq hd hj Kq hK
            rw [if_pos (wanted_none rfl)]
            have f36 := hj.val 1 36 rfl rfl (by simp) rfl (hd ⟨1, .data⟩ (by simp) rfl)
            have f37 := hj.val 2 37 rfl rfl (by simp) rfl (hd ⟨2, .data⟩ (by simp) rfl)
            exact opIndex hK rfl (k := .i64) (i := (i : Int)) (ev f36) (ev f37) Try.underlying45 askSz (by omega) (by omega) (congrArg (fun z => Value.pointer (some (ad.add (z * 5)))) (by omega))),
          (by
            intro Lq aq wq hd hj Kq hK
            rw [if_pos (wanted_none rfl)]
            have f38 := hj.val 3 38 rfl rfl (by simp) rfl (hd ⟨3, .data⟩ (by simp) rfl)
            exact opFieldG hK rfl (k := 1) (ev f38) (fun W => by kernel_rfl) rfl),
          (by
            intro Lq aq wq hd hj Kq hK
            rw [if_pos (wanted_none rfl)]
            have f39 := hj.val 4 39 rfl rfl (by simp) rfl (hd ⟨4, .data⟩ (by simp) rfl)
            first
              | exact opLoad hK rfl (ev f39) Try.underlying3 rfl (Ext.cell ((Ext.refl None_ wr).drew.trans0 hj.ext) d1 (fun a => a)) rfl
              | exact opLoad hK rfl (ev f39) Try.underlying3 rfl (Ext.cell ((Ext.refl None_ wr).drew.trans0 hj.ext) d2 (fun a => a)) rfl
              | exact opLoad hK rfl (ev f39) Try.underlying3 rfl (Ext.cell ((Ext.refl None_ wr).drew.trans0 hj.ext) d4 (fun a => a)) rfl),
          (by
            intro Lq aq wq hd hj Kq hK
            rw [if_pos (wanted_none rfl)]
            have f1 := hj.base 1 rfl rfl
            exact opMove hK rfl (ev f1) rfl),
          (by
            intro Lq aq wq hd hj Kq hK
            rw [if_pos (wanted_none rfl)]
            have f7 := hj.base 7 rfl rfl
            exact opMove hK rfl (ev f7) rfl),
          (by
            intro Lq aq wq hd hj Kq hK
            rw [if_pos (wanted_none rfl)]
            have f41 := hj.val 6 41 rfl rfl (by simp) rfl (hd ⟨6, .data⟩ (by simp) rfl)
            have f42 := hj.val 7 42 rfl rfl (by simp) rfl (hd ⟨7, .data⟩ (by simp) rfl)
            exact opIndex hK rfl (k := .i64) (i := (i : Int)) (ev f41) (ev f42) Try.underlying45 askSz (by omega) (by omega) (congrArg (fun z => Value.pointer (some (ad.add (z * 5)))) (by omega))),
          (by
            intro Lq aq wq hd hj Kq hK
            rw [if_pos (wanted_none rfl)]
            have f43 := hj.val 8 43 rfl rfl (by simp) rfl (hd ⟨8, .data⟩ (by simp) rfl)
            exact opFieldG hK rfl (k := 2) (ev f43) (fun W => by kernel_rfl) rfl),
          (by
            intro Lq aq wq hd hj Kq hK
            rw [if_pos (wanted_none rfl)]
            have f44 := hj.val 9 44 rfl rfl (by simp) rfl (hd ⟨9, .data⟩ (by simp) rfl)
            first
              | exact opLoad hK rfl (ev f44) Try.underlying3 rfl (Ext.cell ((Ext.refl None_ wr).drew.trans0 hj.ext) d1 (fun a => a)) rfl
              | exact opLoad hK rfl (ev f44) Try.underlying3 rfl (Ext.cell ((Ext.refl None_ wr).drew.trans0 hj.ext) d2 (fun a => a)) rfl
              | exact opLoad hK rfl (ev f44) Try.underlying3 rfl (Ext.cell ((Ext.refl None_ wr).drew.trans0 hj.ext) d4 (fun a => a)) rfl),
          (by
            intro Lq aq wq hd hj Kq hK
            rw [if_pos (wanted_none rfl)]
            have f1 := hj.base 1 rfl rfl
            exact opMove hK rfl (ev f1) rfl),
          (by
            intro Lq aq wq hd hj Kq hK
            rw [if_pos (wanted_none rfl)]
            have f7 := hj.base 7 rfl rfl
            exact opMove hK rfl (ev f7) rfl),
          (by
            intro Lq aq wq hd hj Kq hK
            rw [if_pos (wanted_none rfl)]
            have f46 := hj.val 11 46 rfl rfl (by simp) rfl (hd ⟨11, .data⟩ (by simp) rfl)
            have f47 := hj.val 12 47 rfl rfl (by simp) rfl (hd ⟨12, .data⟩ (by simp) rfl)
            exact opIndex hK rfl (k := .i64) (i := (i : Int)) (ev f46) (ev f47) Try.underlying45 askSz (by omega) (by omega) (congrArg (fun z => Value.pointer (some (ad.add (z * 5)))) (by omega))),
          (by
            intro Lq aq wq hd hj Kq hK
            rw [if_pos (wanted_none rfl)]
            have f48 := hj.val 13 48 rfl rfl (by simp) rfl (hd ⟨13, .data⟩ (by simp) rfl)
            exact opFieldG hK rfl (k := 4) (ev f48) (fun W => by kernel_rfl) rfl),
          (by
            intro Lq aq wq hd hj Kq hK
            rw [if_pos (wanted_none rfl)]
            have f49 := hj.val 14 49 rfl rfl (by simp) rfl (hd ⟨14, .data⟩ (by simp) rfl)
            first
              | exact opLoad hK rfl (ev f49) Try.underlying22 rfl (Ext.cell ((Ext.refl None_ wr).drew.trans0 hj.ext) d1 (fun a => a)) rfl
              | exact opLoad hK rfl (ev f49) Try.underlying22 rfl (Ext.cell ((Ext.refl None_ wr).drew.trans0 hj.ext) d2 (fun a => a)) rfl
              | exact opLoad hK rfl (ev f49) Try.underlying22 rfl (Ext.cell ((Ext.refl None_ wr).drew.trans0 hj.ext) d4 (fun a => a)) rfl),
          trivial⟩ ?fin
        case fin =>
          intro vs w9 hx hg
          have v0 : vs 0 = _ := hg 0 (by decide)
          have v5 : vs 5 = _ := hg 5 (by decide)
          have v10 : vs 10 = _ := hg 10 (by decide)
          have v15 : vs 15 = _ := hg 15 (by decide)
          have X := Lib.hid ((Ext.refl None_ wr).drew.trans0 hx)
          clear hx hg
          simp only [List.dropLast, List.getLast?, List.getLast, Option.toList, putAll, v0, v5, v10, v15, Nat.reduceAdd, Nat.zero_add]
          simp only [Act.put, List.setIfInBounds_toArray, List.set_cons_succ, List.set_cons_zero]
          have HL9 := Lib.hid (hlw.out.ext0 X.out)
          go_wp2_with (go_at_call 15; refine (lw_write HL9.out a.file a.at_ B cb a.data (HDAT.out _ (Lw.x HL9.out)) HBY.out (fun ad e hl => .inr (HBW.out ad e hl)) (by omega) (by omega)).mono ?_; rintro e wZ ⟨rfl, h3, _⟩; have HZ := Lib.hid h3; clear h3)
          go_roundw
          case rel => exact ⟨i + 1, _, by go_num, by omega, by omega, Lib.hid n1, HZ⟩
          case measure => simp [intOf]; omega
      · by_cases hk2 : a.kind = 2
        · replace hk := hk2
          rw [hk] at d0
          obtain ⟨n1, n4⟩ := kept_cut hinv.out a.file a.at_
          go_wp2_with fail
          refine wp_region_last [sv _, sv _, sv _, sv (.pointer (some (ad.add (i * 5)))), sv _, sv _, sv _, sv _, sv (.pointer (some (ad.add (i * 5)))), sv _, sv _] (by kernel_rfl) rfl rfl rfl rfl rfl (by decide) ⟨
            (by
              intro Lq aq wq hd hj Kq hK
              rw [if_pos (wanted_none rfl)]
              have f5 := hj.base 5 rfl rfl
              exact opMove hK rfl (ev f5) rfl),
            (by
              intro Lq aq wq hd hj Kq hK
              rw [if_pos (wanted_none rfl)]
              have f1 := hj.base 1 rfl rfl
              exact opMove hK rfl (ev f1) rfl),
            (by
              intro Lq aq wq hd hj Kq hK
              rw [if_pos (wanted_none rfl)]
              have f7 := hj.base 7 rfl rfl
              exact opMove hK rfl (ev f7) rfl),
            (by
              intro Lq aq wq hd hj Kq hK
              rw [if_pos (wanted_none rfl)]
              have f55 := hj.val 1 55 rfl rfl (by simp) rfl (hd ⟨1, .data⟩ (by simp) rfl)
              have f56 := hj.val 2 56 rfl rfl (by simp) rfl (hd ⟨2, .data⟩ (by simp) rfl)
              exact opIndex hK rfl (k := .i64) (i := (i : Int)) (ev f55) (ev f56) Try.underlying45 askSz (by omega) (by omega) (congrArg (fun z => Value.pointer (some (ad.add (z * 5)))) (by omega))),
            (by
              intro Lq aq wq hd hj Kq hK
              rw [if_pos (wanted_none rfl)]
              have f57 := hj.val 3 57 rfl rfl (by simp) rfl (hd ⟨3, .data⟩ (by simp) rfl)
              exact opFieldG hK rfl (k := 1) (ev f57) (fun W => by kernel_rfl) rfl),
            (by
              intro Lq aq wq hd hj Kq hK
              rw [if_pos (wanted_none rfl)]
              have f58 := hj.val 4 58 rfl rfl (by simp) rfl (hd ⟨4, .data⟩ (by simp) rfl)
              first
                | exact opLoad hK rfl (ev f58) Try.underlying3 rfl (Ext.cell ((Ext.refl None_ wr).drew.trans0 hj.ext) d1 (fun a => a)) rfl
                | exact opLoad hK rfl (ev f58) Try.underlying3 rfl (Ext.cell ((Ext.refl None_ wr).drew.trans0 hj.ext) d2 (fun a => a)) rfl),
            (by
              intro Lq aq wq hd hj Kq hK
              rw [if_pos (wanted_none rfl)]
              have f1 := hj.base 1 rfl rfl
              exact opMove hK rfl (ev f1) rfl),
            (by
              intro Lq aq wq hd hj Kq hK
              rw [if_pos (wanted_none rfl)]
              have f7 := hj.base 7 rfl rfl
              exact opMove hK rfl (ev f7) rfl),
            (by
              intro Lq aq wq hd hj Kq hK
              rw [if_pos (wanted_none rfl)]
              have f60 := hj.val 6 60 rfl rfl (by simp) rfl (hd ⟨6, .data⟩ (by simp) rfl)
              have f61 := hj.val 7 61 rfl rfl (by simp) rfl (hd ⟨7, .data⟩ (by simp) rfl)
              exact opIndex hK rfl (k := .i64) (i := (i : Int)) (ev f60) (ev f61) Try.underlying45 askSz (by omega) (by omega) (congrArg (fun z => Value.pointer (some (ad.add (z * 5)))) (by omega))),
            (by
              intro Lq aq wq hd hj Kq hK
              rw [if_pos (wanted_none rfl)]
              have f62 := hj.val 8 62 rfl rfl (by simp) rfl (hd ⟨8, .data⟩ (by simp) rfl)
              exact opFieldG hK rfl (k := 2) (ev f62) (fun W => by kernel_rfl) rfl),
            (by
              intro Lq aq wq hd hj Kq hK
              rw [if_pos (wanted_none rfl)]
              have f63 := hj.val 9 63 rfl rfl (by simp) rfl (hd ⟨9, .data⟩ (by simp) rfl)
              first
                | exact opLoad hK rfl (ev f63) Try.underlying3 rfl (Ext.cell ((Ext.refl None_ wr).drew.trans0 hj.ext) d1 (fun a => a)) rfl
                | exact opLoad hK rfl (ev f63) Try.underlying3 rfl (Ext.cell ((Ext.refl None_ wr).drew.trans0 hj.ext) d2 (fun a => a)) rfl),
            trivial⟩ ?fin
          case fin =>
            intro vs w9 hx hg
            have v0 : vs 0 = _ := hg 0 (by decide)
            have v5 : vs 5 = _ := hg 5 (by decide)
            have v10 : vs 10 = _ := hg 10 (by decide)
            have X := Lib.hid ((Ext.refl None_ wr).drew.trans0 hx)
            clear hx hg
            simp only [List.dropLast, List.getLast?, List.getLast, Option.toList, putAll, v0, v5, v10, Nat.reduceAdd, Nat.zero_add]
            simp only [Act.put, List.setIfInBounds_toArray, List.set_cons_succ, List.set_cons_zero]
            have HL9 := Lib.hid (hlw.out.ext0 X.out)
            go_wp2_with (go_at_call 26; refine (lw_cut HL9.out a.file a.at_ (by omega)).mono ?_; rintro e wZ ⟨rfl, h3, _⟩; have HZ := Lib.hid h3; clear h3)
            go_roundw
            case rel => exact ⟨i + 1, _, by go_num, by omega, by omega, Lib.hid n1, HZ⟩
            case measure => simp [intOf]; omega
        · have hk1' : (a.kind == 1) = false := by simp [hk]
          have hk2' : (a.kind == 2) = false := by simp [hk2]
          go_wp2_with fail
          go_roundw
          case rel => exact ⟨i + 1, D, by go_num, by omega, by omega, hinv, hlw⟩
          case measure => simp [intOf]; omega
    · by_cases ha : i < l.length
      · have hb : 40 ≤ i := by omega
        obtain ⟨Da, hda⟩ : ∃ Da, Da = crashD D (-1) (-1) := ⟨_, rfl⟩
        obtain ⟨Dn, hdn⟩ : ∃ Dn, Dn = crashD D 0 0 := ⟨_, rfl⟩
        have HDA := Lib.hid hda
        have HDN := Lib.hid hdn
        have HFA : Hid (Da.files = D.files ∧ Da.off = D.off ∧ Da.quota - (heldN Da.files : Int) = D.quota - (heldN D.files : Int)) := Lib.hid (by
          have e1 : Da.files = D.files := hda ▸ kept_all hinv.out
          refine ⟨e1, by rw [hda, hinv.out.calm.off]; rfl, ?_⟩
          rw [e1, hda]
          rfl)
        have HFN : Hid (Dn.files = Ds.files ∧ Dn.off = Ds.off) := Lib.hid ⟨by rw [HSF.out.1, hdn]; exact kept_none hinv.out 0, by rw [HSF.out.2, hdn]; rfl⟩
        have hdw2 : D.wait.length ≤ 1099511627776 := by omega
        clear hda hdn hend
        go_wp2_with (first
          | (go_at_call 28; refine (is_waiting (Lw.is hlw.out)).mono ?_; rintro e wC ⟨rfl, hx⟩; have HC := Lib.hid (hlw.out.ext0 hx); clear hx hlw)
          | (go_at_call 22; refine (lw_crash HC.out (-1) (-1) (by unfold I64; omega) hdw2).mono ?_; rintro e wD ⟨ga, rfl, h3, _⟩; rw [← HDA.out] at h3; have HD := Lib.hid h3; clear h3 HC)
          | (go_at_call 22; refine (lw_crash HD.out 0 0 (by unfold I64; omega) hdw2).mono ?_; rintro e wE ⟨gn, rfl, h3, _⟩; rw [← HDN.out] at h3; have HE := Lib.hid h3; clear h3 HD))
        go_loopw [11] (fun v11 wr => ∃ (j : Nat), v11 = .int .i64 j ∧ j ≤ 64 ∧ Hid (Lw w [] [(gn, Dn), (ga, Da), (gs, Ds)] g D wr)) (fun v11 _ => 64 - (intOf v11).toNat)
        case atStart => exact ⟨0, rfl, by omega, HE⟩
        case round =>
          clear HE HDA HDN
          obtain ⟨j, rfl, hj, hlw⟩ := hrel
          by_cases hlt : j < 64
          · obtain ⟨r1, hr1⟩ : ∃ r1, r1 = readF D (j : Int) := ⟨_, rfl⟩
            obtain ⟨r2, hr2⟩ : ∃ r2, r2 = readF Ds (j : Int) := ⟨_, rfl⟩
            have E1 : Hid (readF Da (j : Int) = r1) := Lib.hid (by rw [hr1]; exact readF_congr HFA.out.2.1 HFA.out.1 _)
            have E2 : Hid (readF Dn (j : Int) = r2) := Lib.hid (by rw [hr2]; exact readF_congr HFN.out.2 HFN.out.1 _)
            have E3 := Lib.hid hr1.symm
            have E4 := Lib.hid hr2.symm
            have hn1 : r1.length ≤ 140737488355328 := hr1 ▸ read_lenD (Lw.is hlw.out) _
            have hn2 : r2.length ≤ 140737488355328 := hr2 ▸ read_lenD (Lw.isQ hlw.out (List.mem_cons_of_mem _ (List.mem_cons_of_mem _ (List.mem_cons_self ..)))) _
            clear hr1 hr2
            go_wp2_with (first
              | (go_at_call 23; refine (is_readE (Lw.isQ hlw.out (List.mem_cons_of_mem _ (List.mem_cons_self ..))) E1.out).mono ?_; rintro e w1 ⟨B1, b1, rfl, hr, _, hb, _, hx⟩; have H1 := Lib.hid (Lw.addRow hlw.out hx hr hb); clear hr hb hx hlw)
              | (go_at_call 23; refine (is_readE (Lw.is H1.out) E3.out).mono ?_; rintro e w2 ⟨B2, b2, rfl, hr, _, hb, _, hx⟩; have H2 := Lib.hid (Lw.addRow H1.out hx hr hb); clear hr hb hx H1)
              | (go_at_call 24; refine (same_any B1 b1 r1 B2 b2 r1 _ (Lw.row H2.out (List.mem_cons_of_mem _ (List.mem_cons_self ..))) (Lw.row H2.out (List.mem_cons_self ..)) hn1 hn1).mono ?_; rintro e w3 ⟨h7, hx7⟩; rw [show decide (r1 = r1) = true from by simp] at h7; subst h7; have H3 := Lib.hid ((H2.out.ext0 hx7).sub (rs' := []) (qs' := [(gn, Dn), (ga, Da), (gs, Ds)]) (fun _ h => by simp at h) (fun _ h => h)); clear hx7 H2)
              | (go_at_call 23; refine (is_readE (Lw.isQ H3.out (List.mem_cons_self ..)) E2.out).mono ?_; rintro e w4 ⟨B4, b4, rfl, hr, _, hb, _, hx⟩; have H4 := Lib.hid (Lw.addRow H3.out hx hr hb); clear hr hb hx H3)
              | (go_at_call 23; refine (is_readE (Lw.isQ H4.out (List.mem_cons_of_mem _ (List.mem_cons_of_mem _ (List.mem_cons_self ..)))) E4.out).mono ?_; rintro e w5 ⟨B5, b5, rfl, hr, _, hb, _, hx⟩; have H5 := Lib.hid (Lw.addRow H4.out hx hr hb); clear hr hb hx H4)
              | (go_at_call 24; refine (same_any B4 b4 r2 B5 b5 r2 _ (Lw.row H5.out (List.mem_cons_of_mem _ (List.mem_cons_self ..))) (Lw.row H5.out (List.mem_cons_self ..)) hn2 hn2).mono ?_; rintro e w6 ⟨h7, hx7⟩; rw [show decide (r2 = r2) = true from by simp] at h7; subst h7; have H6 := Lib.hid ((H5.out.ext0 hx7).sub (rs' := []) (qs' := [(gn, Dn), (ga, Da), (gs, Ds)]) (fun _ h => by simp at h) (fun _ h => h)); clear hx7 H5))
            go_roundw
            case rel => exact ⟨j + 1, by go_num, by omega, H6⟩
            case measure => simp [intOf]; omega
          · go_wp2_with (first
              | (go_at_call 28; refine (is_waiting (Lw.is hlw.out)).mono ?_; rintro e w1 ⟨rfl, hx⟩; have H1 := Lib.hid (hlw.out.ext0 hx); clear hx hlw)
              | (go_at_call 27; refine (is_room (Lw.isQ H1.out (List.mem_cons_of_mem _ (List.mem_cons_self ..)))).mono ?_; rintro e w2 ⟨h9, hx⟩; rw [HFA.out.2.2] at h9; subst h9; have H2 := Lib.hid (H1.out.ext0 hx); clear hx H1)
              | (go_at_call 27; refine (is_room (Lw.is H2.out)).mono ?_; rintro e w3 ⟨rfl, hx⟩; have H3 := Lib.hid (H2.out.ext0 hx); clear hx H2)
              | (go_at_call 5; refine (HR.out _).mono ?_; rintro e wZ ⟨rfl, hz⟩; have HZ := Lib.hid hz; clear hz))
            go_ret
            exact ⟨rfl, (Lw.x H3.out).trans0 HZ.out⟩
      · obtain ⟨Da, hda⟩ : ∃ Da, Da = crashD D (-1) (-1) := ⟨_, rfl⟩
        obtain ⟨Dn, hdn⟩ : ∃ Dn, Dn = crashD D 0 0 := ⟨_, rfl⟩
        have HDA := Lib.hid hda
        have HDN := Lib.hid hdn
        have HFA : Hid (Da.files = D.files ∧ Da.off = D.off ∧ Da.quota - (heldN Da.files : Int) = D.quota - (heldN D.files : Int)) := Lib.hid (by
          have e1 : Da.files = D.files := hda ▸ kept_all hinv.out
          refine ⟨e1, by rw [hda, hinv.out.calm.off]; rfl, ?_⟩
          rw [e1, hda]
          rfl)
        have HFN : Hid (Dn.files = Ds.files ∧ Dn.off = Ds.off) := Lib.hid ⟨by rw [HSF.out.1, hdn]; exact kept_none hinv.out 0, by rw [HSF.out.2, hdn]; rfl⟩
        have hdw2 : D.wait.length ≤ 1099511627776 := by omega
        clear hda hdn hend
        go_wp2_with (first
          | (go_at_call 28; refine (is_waiting (Lw.is hlw.out)).mono ?_; rintro e wC ⟨rfl, hx⟩; have HC := Lib.hid (hlw.out.ext0 hx); clear hx hlw)
          | (go_at_call 22; refine (lw_crash HC.out (-1) (-1) (by unfold I64; omega) hdw2).mono ?_; rintro e wD ⟨ga, rfl, h3, _⟩; rw [← HDA.out] at h3; have HD := Lib.hid h3; clear h3 HC)
          | (go_at_call 22; refine (lw_crash HD.out 0 0 (by unfold I64; omega) hdw2).mono ?_; rintro e wE ⟨gn, rfl, h3, _⟩; rw [← HDN.out] at h3; have HE := Lib.hid h3; clear h3 HD))
        go_loopw [11] (fun v11 wr => ∃ (j : Nat), v11 = .int .i64 j ∧ j ≤ 64 ∧ Hid (Lw w [] [(gn, Dn), (ga, Da), (gs, Ds)] g D wr)) (fun v11 _ => 64 - (intOf v11).toNat)
        case atStart => exact ⟨0, rfl, by omega, HE⟩
        case round =>
          clear HE HDA HDN
          obtain ⟨j, rfl, hj, hlw⟩ := hrel
          by_cases hlt : j < 64
          · obtain ⟨r1, hr1⟩ : ∃ r1, r1 = readF D (j : Int) := ⟨_, rfl⟩
            obtain ⟨r2, hr2⟩ : ∃ r2, r2 = readF Ds (j : Int) := ⟨_, rfl⟩
            have E1 : Hid (readF Da (j : Int) = r1) := Lib.hid (by rw [hr1]; exact readF_congr HFA.out.2.1 HFA.out.1 _)
            have E2 : Hid (readF Dn (j : Int) = r2) := Lib.hid (by rw [hr2]; exact readF_congr HFN.out.2 HFN.out.1 _)
            have E3 := Lib.hid hr1.symm
            have E4 := Lib.hid hr2.symm
            have hn1 : r1.length ≤ 140737488355328 := hr1 ▸ read_lenD (Lw.is hlw.out) _
            have hn2 : r2.length ≤ 140737488355328 := hr2 ▸ read_lenD (Lw.isQ hlw.out (List.mem_cons_of_mem _ (List.mem_cons_of_mem _ (List.mem_cons_self ..)))) _
            clear hr1 hr2
            go_wp2_with (first
              | (go_at_call 23; refine (is_readE (Lw.isQ hlw.out (List.mem_cons_of_mem _ (List.mem_cons_self ..))) E1.out).mono ?_; rintro e w1 ⟨B1, b1, rfl, hr, _, hb, _, hx⟩; have H1 := Lib.hid (Lw.addRow hlw.out hx hr hb); clear hr hb hx hlw)
              | (go_at_call 23; refine (is_readE (Lw.is H1.out) E3.out).mono ?_; rintro e w2 ⟨B2, b2, rfl, hr, _, hb, _, hx⟩; have H2 := Lib.hid (Lw.addRow H1.out hx hr hb); clear hr hb hx H1)
              | (go_at_call 24; refine (same_any B1 b1 r1 B2 b2 r1 _ (Lw.row H2.out (List.mem_cons_of_mem _ (List.mem_cons_self ..))) (Lw.row H2.out (List.mem_cons_self ..)) hn1 hn1).mono ?_; rintro e w3 ⟨h7, hx7⟩; rw [show decide (r1 = r1) = true from by simp] at h7; subst h7; have H3 := Lib.hid ((H2.out.ext0 hx7).sub (rs' := []) (qs' := [(gn, Dn), (ga, Da), (gs, Ds)]) (fun _ h => by simp at h) (fun _ h => h)); clear hx7 H2)
              | (go_at_call 23; refine (is_readE (Lw.isQ H3.out (List.mem_cons_self ..)) E2.out).mono ?_; rintro e w4 ⟨B4, b4, rfl, hr, _, hb, _, hx⟩; have H4 := Lib.hid (Lw.addRow H3.out hx hr hb); clear hr hb hx H3)
              | (go_at_call 23; refine (is_readE (Lw.isQ H4.out (List.mem_cons_of_mem _ (List.mem_cons_of_mem _ (List.mem_cons_self ..)))) E4.out).mono ?_; rintro e w5 ⟨B5, b5, rfl, hr, _, hb, _, hx⟩; have H5 := Lib.hid (Lw.addRow H4.out hx hr hb); clear hr hb hx H4)
              | (go_at_call 24; refine (same_any B4 b4 r2 B5 b5 r2 _ (Lw.row H5.out (List.mem_cons_of_mem _ (List.mem_cons_self ..))) (Lw.row H5.out (List.mem_cons_self ..)) hn2 hn2).mono ?_; rintro e w6 ⟨h7, hx7⟩; rw [show decide (r2 = r2) = true from by simp] at h7; subst h7; have H6 := Lib.hid ((H5.out.ext0 hx7).sub (rs' := []) (qs' := [(gn, Dn), (ga, Da), (gs, Ds)]) (fun _ h => by simp at h) (fun _ h => h)); clear hx7 H5))
            go_roundw
            case rel => exact ⟨j + 1, by go_num, by omega, H6⟩
            case measure => simp [intOf]; omega
          · go_wp2_with (first
              | (go_at_call 28; refine (is_waiting (Lw.is hlw.out)).mono ?_; rintro e w1 ⟨rfl, hx⟩; have H1 := Lib.hid (hlw.out.ext0 hx); clear hx hlw)
              | (go_at_call 27; refine (is_room (Lw.isQ H1.out (List.mem_cons_of_mem _ (List.mem_cons_self ..)))).mono ?_; rintro e w2 ⟨h9, hx⟩; rw [HFA.out.2.2] at h9; subst h9; have H2 := Lib.hid (H1.out.ext0 hx); clear hx H1)
              | (go_at_call 27; refine (is_room (Lw.is H2.out)).mono ?_; rintro e w3 ⟨rfl, hx⟩; have H3 := Lib.hid (H2.out.ext0 hx); clear hx H2)
              | (go_at_call 5; refine (HR.out _).mono ?_; rintro e wZ ⟨rfl, hz⟩; have HZ := Lib.hid hz; clear hz))
            go_ret
            exact ⟨rfl, (Lw.x H3.out).trans0 HZ.out⟩
theorem DiskAll_row {w : World} (x : AkX) (hx : x.ok w) (y : AkX) (hy : y.ok w) : Calls Try.prog 7 #[x.v, y.v] w fun e w' => e = .returned (.bool true) ∧ Ext None_ w w' :=
  DiskAll_any x.2.1 x.2.2 x.1 y.2.1 y.2.2 y.1 w hx.1 hx.2 hy.1 hy.2
end Go.Proofs.Ytakcdmmniaipeaa
