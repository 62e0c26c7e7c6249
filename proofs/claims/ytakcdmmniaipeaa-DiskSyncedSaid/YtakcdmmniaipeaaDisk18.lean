/- DiskSynced, walked. Written by gen_disk18.py. -/
import Derived.Test.YtakcdmmniaipeaaDisk17
set_option linter.unusedVariables false
set_option linter.unusedSimpArgs false
namespace Go.Proofs.Ytakcdmmniaipeaa
open Go.RowKit B
theorem crash_facts (D : DS) (keep torn : Int) : (crashD D keep torn).off = false ∧ (crashD D keep torn).wait.length = 0 := ⟨rfl, rfl⟩
set_option maxRecDepth 100000 in
set_option maxHeartbeats 16000000 in
theorem DiskSynced_any (A0 : Option Addr) (cap : Nat) (l0 : List (Ask × Option Addr × Nat)) (A3 : Option Addr) (cap3 : Nat) (l : List (Ask × Option Addr × Nat)) (fi keep torn arm : Int) (hfi : I64 fi) (hke : I64 keep) (har : I64 arm) (w : World) (hl0 : Aks w A0 l0) (hlen0 : l0.length ≤ 140737488351232) (hl : Aks w A3 l) (hlen : l.length ≤ 140737488351232) : Calls Try.prog 6 #[.slice A0 l0.length cap, .slice A3 l.length cap3, .int .i64 fi, .int .i64 keep, .int .i64 torn, .int .i64 arm] w fun e w' => e = .returned (.bool true) ∧ Ext None_ w w' := by
  have HSO := Lib.hid (some_any A0 cap l0 w hl0 hlen0)
  have HL := Lib.hid hl
  obtain ⟨f, hf⟩ : ∃ f, f = within fi 0 63 := ⟨_, rfl⟩
  have hf0 : 0 ≤ f ∧ f < 64 := hf ▸ within63 fi
  have HWI : Hid (∀ W, Calls Try.prog 16 #[.int .i64 fi, .int .i64 0, .int .i64 63] W fun e w' => e = .returned (.int .i64 f) ∧ W = w') := Lib.hid (fun W => hf ▸ within_any fi 0 63 W hfi (by omega) (by omega) (by omega))
  have HKE := Lib.hid hke
  have HAR : Hid (arm ≤ 9223372036854775807) := Lib.hid har.2
  have HR := Lib.hid (fun W => DiskRuns_any W)
  clear hf hl hl0 hfi hke har
  go_enter Try.func6, Try.ntmps6
  go_wp2_with (first
    | (go_at_call 30; refine HSO.out.mono ?_; rintro e wA ⟨g, D, rfl, hsy, h1⟩; have HA := Lib.hid h1; have HSY := Lib.hid hsy; obtain ⟨was, hwas⟩ : ∃ was, was = readF D f := ⟨_, rfl⟩; have HWAS := Lib.hid hwas; have HLN := Lib.hid (hwas ▸ read_lenD (Lw.is h1) f); have HSF : Hid (Same f was D) := Lib.hid (by rw [hwas, read_calm hsy.calm.off hf0]; exact same_of hsy f); clear h1 hsy HSO hwas)
    | (go_at_call 16; refine (HWI.out _).mono ?_; rintro e w1 ⟨rfl, rfl⟩; clear HWI)
    | (go_at_call 23; refine (is_readE (Lw.is HA.out) HWAS.out.symm).mono ?_; rintro e wB ⟨A1, c1, rfl, hr1, ho1, hb1, hc1, hx1⟩; have HB := Lib.hid (Lw.addRow HA.out hx1 hr1 hb1); clear hr1 ho1 hb1 hx1 HA)
    | (go_at_call 21; refine (lw_arm HB.out arm HAR.out).mono ?_; rintro e wC ⟨rfl, h3, _⟩; have HC := Lib.hid h3; clear h3 HB))
  have HS1 := Lib.hid (same_arm HSF.out arm).1
  have HN1 : Hid ((armD D arm).wait.length ≤ 0) := Lib.hid (by rw [(same_arm HSF.out arm).2, HSY.out.wait]; exact Nat.le_refl _)
  obtain ⟨D0, hD0⟩ : ∃ D0, D0 = armD D arm := ⟨_, rfl⟩
  rw [← hD0] at HC HS1 HN1
  have hwl := HLN.out
  clear hD0 HWAS HLN HSF HSY
  go_loopw [15] (fun v15 wr => ∃ (i : Nat) (D : DS), v15 = .int .i64 i ∧ i ≤ 40 ∧ D.wait.length ≤ i ∧ Hid (Same f was D) ∧ Hid (Lw w [(A1, was)] [] g D wr)) (fun v15 _ => 40 - (intOf v15).toNat)
  case atStart => exact ⟨0, D0, rfl, by omega, HN1.out, HS1, HC⟩
  case round =>
    clear D D0 HC HS1 HN1
    obtain ⟨i, D, rfl, hi, hdw, hinv, hlw⟩ := hrel
    by_cases hend : i < l.length ∧ i < 40
    · obtain ⟨h1, h2⟩ := hend
      obtain ⟨q, hq⟩ : ∃ q, q = l[i] := ⟨_, rfl⟩
      obtain ⟨ad, hA0, ⟨k0, k1, k2, k3, k4⟩, hok⟩ := HL.out i q (by rw [hq]; exact List.getElem?_eq_getElem h1)
      subst hA0
      obtain ⟨⟨a, B, cb⟩, hq2⟩ : ∃ r : Ask × Option Addr × Nat, r = q := ⟨q, rfl⟩
      rw [← hq2] at k0 k1 k2 k3 k4 hok
      simp only at k0 k1 k2 k3 k4 hok
      have hx0 := (Lw.x hlw.out)
      have d0 := hx0.cell k0 (fun a => a)
      have d1 := hx0.cell k1 (fun a => a)
      have d2 := hx0.cell k2 (fun a => a)
      have d3 := hx0.cell k3 (fun a => a)
      have d4 := hx0.cell k4 (fun a => a)
      have HOK := Lib.hid hok
      have hi1 := hok.i1
      have hi2 := hok.i2
      have hdl := hok.len
      have HDAT : Hid (∀ W, Ext None_ w W → Row W B (B8 a.data)) := Lib.hid (fun W hx => HOK.out.row.ext0 hx)
      have HBW : Hid (∀ ad, B = some ad → 0 < a.data.length → ad.block < w.heap.size) := Lib.hid HOK.out.blk
      have HBY := Lib.hid HOK.out.byt
      clear hq hq2 k0 k1 k2 k3 k4 hx0 hok
      by_cases hne : a.file = f
      · have hne' : (a.file == f) = true := by simp [hne]
        go_wp2_with fail
        go_roundw
        case rel => exact ⟨i + 1, D, by go_num, by omega, by omega, hinv, hlw⟩
        case measure => simp [intOf]; omega
      · by_cases hk : a.kind = 1
        · rw [hk] at d0
          obtain ⟨n1, n4⟩ := same_write hinv.out hf0.1 (n := a.file) (z := a.at_) (p := a.data) hne
          have hne' : (a.file == f) = false := by simp [hne]
          go_wp2_with fail
          refine wp_region_last [sv _, sv _, sv _, sv (.pointer (some (ad.add (i * 5)))), sv _, sv _, sv _, sv _, sv (.pointer (some (ad.add (i * 5)))), sv _, sv _, sv _, sv _, sv (.pointer (some (ad.add (i * 5)))), sv _, sv _] (by kernel_rfl) rfl rfl rfl rfl rfl (by decide) ⟨
            (by
              intro Lq aq wq hd hj Kq hK
              rw [if_pos (wanted_none rfl)]
              have f13 := hj.base 13 rfl rfl
              exact opMove hK rfl (ev f13) rfl),
            (by
              intro Lq aq wq hd hj Kq hK
              rw [if_pos (wanted_none rfl)]
              have f1 := hj.base 1 rfl rfl
              exact opMove hK rfl (ev f1) rfl),
            (by
              intro Lq aq wq hd hj Kq hK
              rw [if_pos (wanted_none rfl)]
              have f15 := hj.base 15 rfl rfl
              exact opMove hK rfl (ev f15) rfl),
            (by
              intro Lq aq wq hd hj Kq hK
              rw [if_pos (wanted_none rfl)]
              have f54 := hj.val 1 54 rfl rfl (by simp) rfl (hd ⟨1, .data⟩ (by simp) rfl)
              have f55 := hj.val 2 55 rfl rfl (by simp) rfl (hd ⟨2, .data⟩ (by simp) rfl)
              exact opIndex hK rfl (k := .i64) (i := (i : Int)) (ev f54) (ev f55) Try.underlying45 askSz (by omega) (by omega) (congrArg (fun z => Value.pointer (some (ad.add (z * 5)))) (by omega))),
            (by
              intro Lq aq wq hd hj Kq hK
              rw [if_pos (wanted_none rfl)]
              have f56 := hj.val 3 56 rfl rfl (by simp) rfl (hd ⟨3, .data⟩ (by simp) rfl)
              exact opFieldG hK rfl (k := 1) (ev f56) (fun W => by kernel_rfl) rfl),
            (by
              intro Lq aq wq hd hj Kq hK
              rw [if_pos (wanted_none rfl)]
              have f57 := hj.val 4 57 rfl rfl (by simp) rfl (hd ⟨4, .data⟩ (by simp) rfl)
              first
                | exact opLoad hK rfl (ev f57) Try.underlying3 rfl (Ext.cell ((Ext.refl None_ wr).drew.trans0 hj.ext) d1 (fun a => a)) rfl
                | exact opLoad hK rfl (ev f57) Try.underlying3 rfl (Ext.cell ((Ext.refl None_ wr).drew.trans0 hj.ext) d2 (fun a => a)) rfl
                | exact opLoad hK rfl (ev f57) Try.underlying3 rfl (Ext.cell ((Ext.refl None_ wr).drew.trans0 hj.ext) d4 (fun a => a)) rfl),
            (by
              intro Lq aq wq hd hj Kq hK
              rw [if_pos (wanted_none rfl)]
              have f1 := hj.base 1 rfl rfl
              exact opMove hK rfl (ev f1) rfl),
            (by
              intro Lq aq wq hd hj Kq hK
              rw [if_pos (wanted_none rfl)]
              have f15 := hj.base 15 rfl rfl
              exact opMove hK rfl (ev f15) rfl),
            (by
              intro Lq aq wq hd hj Kq hK
              rw [if_pos (wanted_none rfl)]
              have f59 := hj.val 6 59 rfl rfl (by simp) rfl (hd ⟨6, .data⟩ (by simp) rfl)
              have f60 := hj.val 7 60 rfl rfl (by simp) rfl (hd ⟨7, .data⟩ (by simp) rfl)
              exact opIndex hK rfl (k := .i64) (i := (i : Int)) (ev f59) (ev f60) Try.underlying45 askSz (by omega) (by omega) (congrArg (fun z => Value.pointer (some (ad.add (z * 5)))) (by omega))),
            (by
              intro Lq aq wq hd hj Kq hK
              rw [if_pos (wanted_none rfl)]
              have f61 := hj.val 8 61 rfl rfl (by simp) rfl (hd ⟨8, .data⟩ (by simp) rfl)
              exact opFieldG hK rfl (k := 2) (ev f61) (fun W => by kernel_rfl) rfl),
            (by
              intro Lq aq wq hd hj Kq hK
              rw [if_pos (wanted_none rfl)]
              have f62 := hj.val 9 62 rfl rfl (by simp) rfl (hd ⟨9, .data⟩ (by simp) rfl)
              first
                | exact opLoad hK rfl (ev f62) Try.underlying3 rfl (Ext.cell ((Ext.refl None_ wr).drew.trans0 hj.ext) d1 (fun a => a)) rfl
                | exact opLoad hK rfl (ev f62) Try.underlying3 rfl (Ext.cell ((Ext.refl None_ wr).drew.trans0 hj.ext) d2 (fun a => a)) rfl
                | exact opLoad hK rfl (ev f62) Try.underlying3 rfl (Ext.cell ((Ext.refl None_ wr).drew.trans0 hj.ext) d4 (fun a => a)) rfl),
            (by
              intro Lq aq wq hd hj Kq hK
              rw [if_pos (wanted_none rfl)]
              have f1 := hj.base 1 rfl rfl
              exact opMove hK rfl (ev f1) rfl),
            (by
              intro Lq aq wq hd hj Kq hK
              rw [if_pos (wanted_none rfl)]
              have f15 := hj.base 15 rfl rfl
              exact opMove hK rfl (ev f15) rfl),
            (by
              intro Lq aq wq hd hj Kq hK
              rw [if_pos (wanted_none rfl)]
              have f64 := hj.val 11 64 rfl rfl (by simp) rfl (hd ⟨11, .data⟩ (by simp) rfl)
              have f65 := hj.val 12 65 rfl rfl (by simp) rfl (hd ⟨12, .data⟩ (by simp) rfl)
              exact opIndex hK rfl (k := .i64) (i := (i : Int)) (ev f64) (ev f65) Try.underlying45 askSz (by omega) (by omega) (congrArg (fun z => Value.pointer (some (ad.add (z * 5)))) (by omega))),
            (by
              intro Lq aq wq hd hj Kq hK
              rw [if_pos (wanted_none rfl)]
              have f66 := hj.val 13 66 rfl rfl (by simp) rfl (hd ⟨13, .data⟩ (by simp) rfl)
              exact opFieldG hK rfl (k := 4) (ev f66) (fun W => by kernel_rfl) rfl),
            (by
              intro Lq aq wq hd hj Kq hK
              rw [if_pos (wanted_none rfl)]
              have f67 := hj.val 14 67 rfl rfl (by simp) rfl (hd ⟨14, .data⟩ (by simp) rfl)
              first
                | exact opLoad hK rfl (ev f67) Try.underlying22 rfl (Ext.cell ((Ext.refl None_ wr).drew.trans0 hj.ext) d1 (fun a => a)) rfl
                | exact opLoad hK rfl (ev f67) Try.underlying22 rfl (Ext.cell ((Ext.refl None_ wr).drew.trans0 hj.ext) d2 (fun a => a)) rfl
                | exact opLoad hK rfl (ev f67) Try.underlying22 rfl (Ext.cell ((Ext.refl None_ wr).drew.trans0 hj.ext) d4 (fun a => a)) rfl),
            trivial⟩ ?fin
          case fin =>
            intro vs w9 hx hg
            have v0 : vs 0 = _ := hg 0 (by decide)
            have v5 : vs 5 = _ := hg 5 (by decide)
            have v10 : vs 10 = _ := hg 10 (by decide)
            have v15 : vs 15 = _ := hg 15 (by decide)
            have X := Lib.hid ((Ext.refl None_ wr).drew.trans0 hx)
            clear hx hg
            simp only [List.dropLast, List.getLast?, List.getLast, Option.toList, putAll, v0, v5, v10, v15, Nat.reduceAdd, Nat.zero_add]
            simp only [Act.put, List.setIfInBounds_toArray, List.set_cons_succ, List.set_cons_zero]
            have HL9 := Lib.hid (hlw.out.ext0 X.out)
            go_wp2_with (go_at_call 15; refine (lw_write HL9.out a.file a.at_ B cb a.data (HDAT.out _ (Lw.x HL9.out)) HBY.out (fun ad e hl => .inr (HBW.out ad e hl)) (by omega) (by omega)).mono ?_; rintro e wZ ⟨rfl, h3, _⟩; have HZ := Lib.hid h3; clear h3)
            go_roundw
            case rel => exact ⟨i + 1, _, by go_num, by omega, by omega, Lib.hid n1, HZ⟩
            case measure => simp [intOf]; omega
        · by_cases hk2 : a.kind = 2
          · replace hk := hk2
            rw [hk] at d0
            obtain ⟨n1, n4⟩ := same_cut hinv.out hf0.1 (n := a.file) (z := a.at_) hne
            have hne' : (a.file == f) = false := by simp [hne]
            go_wp2_with fail
            refine wp_region_last [sv _, sv _, sv _, sv (.pointer (some (ad.add (i * 5)))), sv _, sv _, sv _, sv _, sv (.pointer (some (ad.add (i * 5)))), sv _, sv _] (by kernel_rfl) rfl rfl rfl rfl rfl (by decide) ⟨
              (by
                intro Lq aq wq hd hj Kq hK
                rw [if_pos (wanted_none rfl)]
                have f13 := hj.base 13 rfl rfl
                exact opMove hK rfl (ev f13) rfl),
              (by
                intro Lq aq wq hd hj Kq hK
                rw [if_pos (wanted_none rfl)]
                have f1 := hj.base 1 rfl rfl
                exact opMove hK rfl (ev f1) rfl),
              (by
                intro Lq aq wq hd hj Kq hK
                rw [if_pos (wanted_none rfl)]
                have f15 := hj.base 15 rfl rfl
                exact opMove hK rfl (ev f15) rfl),
              (by
                intro Lq aq wq hd hj Kq hK
                rw [if_pos (wanted_none rfl)]
                have f73 := hj.val 1 73 rfl rfl (by simp) rfl (hd ⟨1, .data⟩ (by simp) rfl)
                have f74 := hj.val 2 74 rfl rfl (by simp) rfl (hd ⟨2, .data⟩ (by simp) rfl)
                exact opIndex hK rfl (k := .i64) (i := (i : Int)) (ev f73) (ev f74) Try.underlying45 askSz (by omega) (by omega) (congrArg (fun z => Value.pointer (some (ad.add (z * 5)))) (by omega))),
              (by
                intro Lq aq wq hd hj Kq hK
                rw [if_pos (wanted_none rfl)]
                have f75 := hj.val 3 75 rfl rfl (by simp) rfl (hd ⟨3, .data⟩ (by simp) rfl)
                exact opFieldG hK rfl (k := 1) (ev f75) (fun W => by kernel_rfl) rfl),
              (by
                intro Lq aq wq hd hj Kq hK
                rw [if_pos (wanted_none rfl)]
                have f76 := hj.val 4 76 rfl rfl (by simp) rfl (hd ⟨4, .data⟩ (by simp) rfl)
                first
                  | exact opLoad hK rfl (ev f76) Try.underlying3 rfl (Ext.cell ((Ext.refl None_ wr).drew.trans0 hj.ext) d1 (fun a => a)) rfl
                  | exact opLoad hK rfl (ev f76) Try.underlying3 rfl (Ext.cell ((Ext.refl None_ wr).drew.trans0 hj.ext) d2 (fun a => a)) rfl),
              (by
                intro Lq aq wq hd hj Kq hK
                rw [if_pos (wanted_none rfl)]
                have f1 := hj.base 1 rfl rfl
                exact opMove hK rfl (ev f1) rfl),
              (by
                intro Lq aq wq hd hj Kq hK
                rw [if_pos (wanted_none rfl)]
                have f15 := hj.base 15 rfl rfl
                exact opMove hK rfl (ev f15) rfl),
              (by
                intro Lq aq wq hd hj Kq hK
                rw [if_pos (wanted_none rfl)]
                have f78 := hj.val 6 78 rfl rfl (by simp) rfl (hd ⟨6, .data⟩ (by simp) rfl)
                have f79 := hj.val 7 79 rfl rfl (by simp) rfl (hd ⟨7, .data⟩ (by simp) rfl)
                exact opIndex hK rfl (k := .i64) (i := (i : Int)) (ev f78) (ev f79) Try.underlying45 askSz (by omega) (by omega) (congrArg (fun z => Value.pointer (some (ad.add (z * 5)))) (by omega))),
              (by
                intro Lq aq wq hd hj Kq hK
                rw [if_pos (wanted_none rfl)]
                have f80 := hj.val 8 80 rfl rfl (by simp) rfl (hd ⟨8, .data⟩ (by simp) rfl)
                exact opFieldG hK rfl (k := 2) (ev f80) (fun W => by kernel_rfl) rfl),
              (by
                intro Lq aq wq hd hj Kq hK
                rw [if_pos (wanted_none rfl)]
                have f81 := hj.val 9 81 rfl rfl (by simp) rfl (hd ⟨9, .data⟩ (by simp) rfl)
                first
                  | exact opLoad hK rfl (ev f81) Try.underlying3 rfl (Ext.cell ((Ext.refl None_ wr).drew.trans0 hj.ext) d1 (fun a => a)) rfl
                  | exact opLoad hK rfl (ev f81) Try.underlying3 rfl (Ext.cell ((Ext.refl None_ wr).drew.trans0 hj.ext) d2 (fun a => a)) rfl),
              trivial⟩ ?fin
            case fin =>
              intro vs w9 hx hg
              have v0 : vs 0 = _ := hg 0 (by decide)
              have v5 : vs 5 = _ := hg 5 (by decide)
              have v10 : vs 10 = _ := hg 10 (by decide)
              have X := Lib.hid ((Ext.refl None_ wr).drew.trans0 hx)
              clear hx hg
              simp only [List.dropLast, List.getLast?, List.getLast, Option.toList, putAll, v0, v5, v10, Nat.reduceAdd, Nat.zero_add]
              simp only [Act.put, List.setIfInBounds_toArray, List.set_cons_succ, List.set_cons_zero]
              have HL9 := Lib.hid (hlw.out.ext0 X.out)
              go_wp2_with (go_at_call 26; refine (lw_cut HL9.out a.file a.at_ (by omega)).mono ?_; rintro e wZ ⟨rfl, h3, _⟩; have HZ := Lib.hid h3; clear h3)
              go_roundw
              case rel => exact ⟨i + 1, _, by go_num, by omega, by omega, Lib.hid n1, HZ⟩
              case measure => simp [intOf]; omega
          · by_cases hk3 : a.kind = 3
            · replace hk := hk3
              rw [hk] at d0
              obtain ⟨n1, n4⟩ := same_sync hinv.out
              have hne' : (a.file == f) = false := by simp [hne]
              go_wp2_with (go_at_call 25; refine (lw_sync hlw.out).mono ?_; rintro e wZ ⟨rfl, h3, _⟩; have HZ := Lib.hid h3; clear h3)
              go_roundw
              case rel => exact ⟨i + 1, _, by go_num, by omega, by omega, Lib.hid n1, HZ⟩
              case measure => simp [intOf]; omega
            · have hk1' : (a.kind == 1) = false := by simp [hk]
              have hk2' : (a.kind == 2) = false := by simp [hk2]
              have hk3' : (a.kind == 3) = false := by simp [hk3]
              have hne' : (a.file == f) = false := by simp [hne]
              go_wp2_with fail
              go_roundw
              case rel => exact ⟨i + 1, D, by go_num, by omega, by omega, hinv, hlw⟩
              case measure => simp [intOf]; omega
    · by_cases ha : i < l.length
      · have hb : 40 ≤ i := by omega
        have HEQ := Lib.hid (same_crash hinv.out hf0 keep torn)
        obtain ⟨Dc, hdc⟩ : ∃ Dc, Dc = crashD D keep torn := ⟨_, rfl⟩
        have HDC := Lib.hid hdc
        have HCF : Hid (Dc.off = false ∧ Dc.wait.length = 0) := Lib.hid (hdc ▸ crash_facts D keep torn)
        rw [← hdc] at HEQ
        clear hdc hend
        go_wp2_with (first
          | (go_at_call 22; refine (lw_crash hlw.out keep torn HKE.out (by omega)).mono ?_; rintro e wD ⟨g', rfl, _, h3⟩; rw [← HDC.out] at h3; have HD := Lib.hid h3; clear h3 hlw)
          | (go_at_call 23; refine (is_readE (Lw.is HD.out) HEQ.out).mono ?_; rintro e wE ⟨A4, c4, rfl, hr4, _, _, _, hx4⟩; have HE := Lib.hid (HD.out.ext0 hx4); have HR4 := Lib.hid hr4; clear hr4 hx4 HD)
          | (go_at_call 24; refine (same_any A4 c4 was A1 c1 was _ HR4.out (Lw.row HE.out (List.mem_cons_self ..)) hwl hwl).mono ?_; rintro e wF ⟨h7, hx7⟩; rw [show decide (was = was) = true from by simp] at h7; subst h7; have HF := Lib.hid (HE.out.ext0 hx7); clear hx7 HE)
          | (go_at_call 29; refine (is_off (Lw.is HF.out)).mono ?_; rintro e wG ⟨h7, hx7⟩; rw [HCF.out.1] at h7; subst h7; have HG := Lib.hid (HF.out.ext0 hx7); clear hx7 HF)
          | (go_at_call 28; refine (is_waiting (Lw.is HG.out)).mono ?_; rintro e wH ⟨h7, hx7⟩; rw [HCF.out.2] at h7; subst h7; have HH := Lib.hid (HG.out.ext0 hx7); clear hx7 HG)
          | (go_at_call 5; refine (HR.out _).mono ?_; rintro e wZ ⟨rfl, hz⟩; have HZ := Lib.hid hz; clear hz))
        go_ret
        exact ⟨rfl, (Lw.x HH.out).trans0 HZ.out⟩
      · have HEQ := Lib.hid (same_crash hinv.out hf0 keep torn)
        obtain ⟨Dc, hdc⟩ : ∃ Dc, Dc = crashD D keep torn := ⟨_, rfl⟩
        have HDC := Lib.hid hdc
        have HCF : Hid (Dc.off = false ∧ Dc.wait.length = 0) := Lib.hid (hdc ▸ crash_facts D keep torn)
        rw [← hdc] at HEQ
        clear hdc hend
        go_wp2_with (first
          | (go_at_call 22; refine (lw_crash hlw.out keep torn HKE.out (by omega)).mono ?_; rintro e wD ⟨g', rfl, _, h3⟩; rw [← HDC.out] at h3; have HD := Lib.hid h3; clear h3 hlw)
          | (go_at_call 23; refine (is_readE (Lw.is HD.out) HEQ.out).mono ?_; rintro e wE ⟨A4, c4, rfl, hr4, _, _, _, hx4⟩; have HE := Lib.hid (HD.out.ext0 hx4); have HR4 := Lib.hid hr4; clear hr4 hx4 HD)
          | (go_at_call 24; refine (same_any A4 c4 was A1 c1 was _ HR4.out (Lw.row HE.out (List.mem_cons_self ..)) hwl hwl).mono ?_; rintro e wF ⟨h7, hx7⟩; rw [show decide (was = was) = true from by simp] at h7; subst h7; have HF := Lib.hid (HE.out.ext0 hx7); clear hx7 HE)
          | (go_at_call 29; refine (is_off (Lw.is HF.out)).mono ?_; rintro e wG ⟨h7, hx7⟩; rw [HCF.out.1] at h7; subst h7; have HG := Lib.hid (HF.out.ext0 hx7); clear hx7 HF)
          | (go_at_call 28; refine (is_waiting (Lw.is HG.out)).mono ?_; rintro e wH ⟨h7, hx7⟩; rw [HCF.out.2] at h7; subst h7; have HH := Lib.hid (HG.out.ext0 hx7); clear hx7 HG)
          | (go_at_call 5; refine (HR.out _).mono ?_; rintro e wZ ⟨rfl, hz⟩; have HZ := Lib.hid hz; clear hz))
        go_ret
        exact ⟨rfl, (Lw.x HH.out).trans0 HZ.out⟩
theorem DiskSynced_row {w : World} (x : AkX) (hx : x.ok w) (y : AkX) (hy : y.ok w) (fi : Int) (hfi : (Lit.int .i64 fi).wf = true) (keep : Int) (hke : (Lit.int .i64 keep).wf = true) (torn : Int) (_ : (Lit.int .i64 torn).wf = true) (arm : Int) (har : (Lit.int .i64 arm).wf = true) : Calls Try.prog 6 #[x.v, y.v, .int .i64 fi, .int .i64 keep, .int .i64 torn, .int .i64 arm] w fun e w' => e = .returned (.bool true) ∧ Ext None_ w w' :=
  DiskSynced_any x.2.1 x.2.2 x.1 y.2.1 y.2.2 y.1 fi keep torn arm (i64_of hfi) (i64_of hke) (i64_of har) w hx.1 hx.2 hy.1 hy.2
end Go.Proofs.Ytakcdmmniaipeaa
