/- Chapter 20's laws, walked: some. Written by gen_disk16.py. -/
import Derived.Test.YtakcdmmniaipeaaDisk15
set_option linter.unusedVariables false
set_option linter.unusedSimpArgs false
namespace Go.Proofs.Ytakcdmmniaipeaa
open Go.RowKit B
theorem askSz : (Try.prog.info? 48).map (·.size) = some 5 := by kernel_rfl
theorem opFieldG {P : Program} {o : Oper} {a : Act} {w : World} {K : Act → World → Prop} {Q : Exit → Act → World → Prop} {p : Value → World → Prop} (hK : ∀ v w', p v w' → Ext None_ w w' → K (a.put o.dst v) w') {s : TypeId} {x : Operand} {f : Nat} (ho : o.op = .fieldAddr s x f) {ad : Addr} {k : Nat} (hx : a.eval x = .pointer (some ad)) (hr : ∀ W : World, (Instr.fieldAt s (.pointer (some ad)) f).run P W = .ok (.pointer (some ⟨ad.block, ad.off + k, none⟩)) W) (hp : p (.pointer (some ⟨ad.block, ad.off + k, none⟩)) w) : o.wp P a w K Q :=
  opField hK ho hx hr hp
set_option maxRecDepth 100000 in
set_option maxHeartbeats 16000000 in
theorem some_any (A0 : Option Addr) (cap : Nat) (l : List (Ask × Option Addr × Nat)) (w : World) (hl : Aks w A0 l) (hlen : l.length ≤ 140737488351232) : Calls Try.prog 30 #[.slice A0 l.length cap] w fun e w' => ∃ g D, e = .returned (.pointer (some ⟨g, 0, none⟩)) ∧ Synced D ∧ Lw w [] [] g D w' := by
  have HL := Lib.hid hl
  have HNEW := Lib.hid (fun W => lw_new 1048576 W (by omega) (by omega))
  have HCE := Lib.hid (calm_empty (q := 1048576) (by omega))
  clear hl
  go_enter Try.func30, Try.ntmps30
  go_wp2_with (go_at_call 14; refine (HNEW.out _).mono ?_; rintro e wA ⟨g, rfl, h1⟩; have HA := Lib.hid h1; clear h1)
  clear HNEW
  go_loopw [5] (fun v5 wr => ∃ (i : Nat) (D : DS), v5 = .int .i64 i ∧ i ≤ 40 ∧ D.wait.length ≤ i ∧ Hid (Calm 1048576 D) ∧ Hid (Lw w [] [] g D wr)) (fun v5 _ => 40 - (intOf v5).toNat)
  case atStart => exact ⟨0, _, rfl, by omega, by simp [emptyD], HCE, HA⟩
  case round =>
    obtain ⟨i, D, rfl, hi, hdw, hcalm, hlw⟩ := hrel
    by_cases hend : i < l.length ∧ i < 40
    · obtain ⟨h1, h2⟩ := hend
      obtain ⟨q, hq⟩ : ∃ q, q = l[i] := ⟨_, rfl⟩
      obtain ⟨ad, hA0, ⟨k0, k1, k2, k3, k4⟩, hok⟩ := HL.out i q (by rw [hq]; exact List.getElem?_eq_getElem h1)
      subst hA0
      obtain ⟨⟨a, B, cb⟩, hq2⟩ : ∃ r : Ask × Option Addr × Nat, r = q := ⟨q, rfl⟩
      rw [← hq2] at k0 k1 k2 k3 k4 hok
      simp only at k0 k1 k2 k3 k4 hok
      have hx0 := (Lw.x hlw.out)
      have d0 := hx0.cell k0 (fun a => a)
      have d1 := hx0.cell k1 (fun a => a)
      have d2 := hx0.cell k2 (fun a => a)
      have d3 := hx0.cell k3 (fun a => a)
      have d4 := hx0.cell k4 (fun a => a)
      have HOK := Lib.hid hok
      have hi1 := hok.i1
      have hi2 := hok.i2
      have hdl := hok.len
      have HDAT : Hid (∀ W, Ext None_ w W → Row W B (B8 a.data)) := Lib.hid (fun W hx => HOK.out.row.ext0 hx)
      have HBW : Hid (∀ ad, B = some ad → 0 < a.data.length → ad.block < w.heap.size) := Lib.hid HOK.out.blk
      have HBY := Lib.hid HOK.out.byt
      clear hq hq2 k0 k1 k2 k3 k4 hx0 hok
      by_cases hk : a.kind = 1
      · rw [hk] at d0
        obtain ⟨n1, _, _, n4⟩ := calm_write hcalm.out a.file a.at_ a.data
        go_wp2_with fail
        refine wp_region_last [sv _, sv _, sv _, sv (.pointer (some (ad.add (i * 5)))), sv _, sv _, sv _, sv _, sv (.pointer (some (ad.add (i * 5)))), sv _, sv _, sv _, sv _, sv (.pointer (some (ad.add (i * 5)))), sv _, sv _] (by kernel_rfl) rfl rfl rfl rfl rfl (by decide) ⟨
          (by
            intro Lq aq wq hd hj Kq hK
            rw [if_pos (wanted_none rfl)]
            have f3 := hj.base 3 rfl rfl
            exact opMove hK rfl (ev f3) rfl),
          (by
            intro Lq aq wq hd hj Kq hK
            rw [if_pos (wanted_none rfl)]
            have f0 := hj.base 0 rfl rfl
            exact opMove hK rfl (ev f0) rfl),
          (by
            intro Lq aq wq hd hj Kq hK
            rw [if_pos (wanted_none rfl)]
            have f5 := hj.base 5 rfl rfl
            exact opMove hK rfl (ev f5) rfl),
          (by
            intro Lq aq wq hd hj Kq hK
            rw [if_pos (wanted_none rfl)]
            have f30 := hj.val 1 30 rfl rfl (by simp) rfl (hd ⟨1, .data⟩ (by simp) rfl)
            have f31 := hj.val 2 31 rfl rfl (by simp) rfl (hd ⟨2, .data⟩ (by simp) rfl)
            exact opIndex hK rfl (k := .i64) (i := (i : Int)) (ev f30) (ev f31) Try.underlying45 askSz (by omega) (by omega) (congrArg (fun z => Value.pointer (some (ad.add (z * 5)))) (by omega))),
          (by
            intro Lq aq wq hd hj Kq hK
            rw [if_pos (wanted_none rfl)]
            have f32 := hj.val 3 32 rfl rfl (by simp) rfl (hd ⟨3, .data⟩ (by simp) rfl)
            exact opFieldG hK rfl (k := 1) (ev f32) (fun W => by kernel_rfl) rfl),
          (by
            intro Lq aq wq hd hj Kq hK
            rw [if_pos (wanted_none rfl)]
            have f33 := hj.val 4 33 rfl rfl (by simp) rfl (hd ⟨4, .data⟩ (by simp) rfl)
            first
              | exact opLoad hK rfl (ev f33) Try.underlying3 rfl (Ext.cell ((Ext.refl None_ wr).drew.trans0 hj.ext) d1 (fun a => a)) rfl
              | exact opLoad hK rfl (ev f33) Try.underlying3 rfl (Ext.cell ((Ext.refl None_ wr).drew.trans0 hj.ext) d2 (fun a => a)) rfl
              | exact opLoad hK rfl (ev f33) Try.underlying3 rfl (Ext.cell ((Ext.refl None_ wr).drew.trans0 hj.ext) d4 (fun a => a)) rfl),
          (by
            intro Lq aq wq hd hj Kq hK
            rw [if_pos (wanted_none rfl)]
            have f0 := hj.base 0 rfl rfl
            exact opMove hK rfl (ev f0) rfl),
          (by
            intro Lq aq wq hd hj Kq hK
            rw [if_pos (wanted_none rfl)]
            have f5 := hj.base 5 rfl rfl
            exact opMove hK rfl (ev f5) rfl),
          (by
            intro Lq aq wq hd hj Kq hK
            rw [if_pos (wanted_none rfl)]
            have f35 := hj.val 6 35 rfl rfl (by simp) rfl (hd ⟨6, .data⟩ (by simp) rfl)
            have f36 := hj.val 7 36 rfl rfl (by simp) rfl (hd ⟨7, .data⟩ (by simp) rfl)
            exact opIndex hK rfl (k := .i64) (i := (i : Int)) (ev f35) (ev f36) Try.underlying45 askSz (by omega) (by omega) (congrArg (fun z => Value.pointer (some (ad.add (z * 5)))) (by omega))),
          (by
            intro Lq aq wq hd hj Kq hK
            rw [if_pos (wanted_none rfl)]
            have f37 := hj.val 8 37 rfl rfl (by simp) rfl (hd ⟨8, .data⟩ (by simp) rfl)
            exact opFieldG hK rfl (k := 2) (ev f37) (fun W => by kernel_rfl) rfl),
          (by
            intro Lq aq wq hd hj Kq hK
            rw [if_pos (wanted_none rfl)]
            have f38 := hj.val 9 38 rfl rfl (by simp) rfl (hd ⟨9, .data⟩ (by simp) rfl)
            first
              | exact opLoad hK rfl (ev f38) Try.underlying3 rfl (Ext.cell ((Ext.refl None_ wr).drew.trans0 hj.ext) d1 (fun a => a)) rfl
              | exact opLoad hK rfl (ev f38) Try.underlying3 rfl (Ext.cell ((Ext.refl None_ wr).drew.trans0 hj.ext) d2 (fun a => a)) rfl
              | exact opLoad hK rfl (ev f38) Try.underlying3 rfl (Ext.cell ((Ext.refl None_ wr).drew.trans0 hj.ext) d4 (fun a => a)) rfl),
          (by
            intro Lq aq wq hd hj Kq hK
            rw [if_pos (wanted_none rfl)]
            have f0 := hj.base 0 rfl rfl
            exact opMove hK rfl (ev f0) rfl),
          (by
            intro Lq aq wq hd hj Kq hK
            rw [if_pos (wanted_none rfl)]
            have f5 := hj.base 5 rfl rfl
            exact opMove hK rfl (ev f5) rfl),
          (by
            intro Lq aq wq hd hj Kq hK
            rw [if_pos (wanted_none rfl)]
            have f40 := hj.val 11 40 rfl rfl (by simp) rfl (hd ⟨11, .data⟩ (by simp) rfl)
            have f41 := hj.val 12 41 rfl rfl (by simp) rfl (hd ⟨12, .data⟩ (by simp) rfl)
            exact opIndex hK rfl (k := .i64) (i := (i : Int)) (ev f40) (ev f41) Try.underlying45 askSz (by omega) (by omega) (congrArg (fun z => Value.pointer (some (ad.add (z * 5)))) (by omega))),
          (by
            intro Lq aq wq hd hj Kq hK
            rw [if_pos (wanted_none rfl)]
            have f42 := hj.val 13 42 rfl rfl (by simp) rfl (hd ⟨13, .data⟩ (by simp) rfl)
            exact opFieldG hK rfl (k := 4) (ev f42) (fun W => by kernel_rfl) rfl),
          (by
            intro Lq aq wq hd hj Kq hK
            rw [if_pos (wanted_none rfl)]
            have f43 := hj.val 14 43 rfl rfl (by simp) rfl (hd ⟨14, .data⟩ (by simp) rfl)
            first
              | exact opLoad hK rfl (ev f43) Try.underlying22 rfl (Ext.cell ((Ext.refl None_ wr).drew.trans0 hj.ext) d1 (fun a => a)) rfl
              | exact opLoad hK rfl (ev f43) Try.underlying22 rfl (Ext.cell ((Ext.refl None_ wr).drew.trans0 hj.ext) d2 (fun a => a)) rfl
              | exact opLoad hK rfl (ev f43) Try.underlying22 rfl (Ext.cell ((Ext.refl None_ wr).drew.trans0 hj.ext) d4 (fun a => a)) rfl),
          trivial⟩ ?fin
        case fin =>
          intro vs w9 hx hg
          have v0 : vs 0 = _ := hg 0 (by decide)
          have v5 : vs 5 = _ := hg 5 (by decide)
          have v10 : vs 10 = _ := hg 10 (by decide)
          have v15 : vs 15 = _ := hg 15 (by decide)
          have X := Lib.hid ((Ext.refl None_ wr).drew.trans0 hx)
          clear hx hg
          simp only [List.dropLast, List.getLast?, List.getLast, Option.toList, putAll, v0, v5, v10, v15, Nat.reduceAdd, Nat.zero_add]
          simp only [Act.put, List.setIfInBounds_toArray, List.set_cons_succ, List.set_cons_zero]
          have HL9 := Lib.hid (hlw.out.ext0 X.out)
          go_wp2_with (go_at_call 15; refine (lw_write HL9.out a.file a.at_ B cb a.data (HDAT.out _ (Lw.x HL9.out)) HBY.out (fun ad e hl => .inr (HBW.out ad e hl)) (by omega) (by omega)).mono ?_; rintro e wZ ⟨rfl, h3, _⟩; have HZ := Lib.hid h3; clear h3)
          go_roundw
          case rel => exact ⟨i + 1, _, by go_num, by omega, by omega, Lib.hid n1, HZ⟩
          case measure => simp [intOf]; omega
      · by_cases hk2 : a.kind = 2
        · replace hk := hk2
          rw [hk] at d0
          obtain ⟨n1, _, _, n4⟩ := calm_cut hcalm.out a.file a.at_
          go_wp2_with fail
          refine wp_region_last [sv _, sv _, sv _, sv (.pointer (some (ad.add (i * 5)))), sv _, sv _, sv _, sv _, sv (.pointer (some (ad.add (i * 5)))), sv _, sv _] (by kernel_rfl) rfl rfl rfl rfl rfl (by decide) ⟨
            (by
              intro Lq aq wq hd hj Kq hK
              rw [if_pos (wanted_none rfl)]
              have f3 := hj.base 3 rfl rfl
              exact opMove hK rfl (ev f3) rfl),
            (by
              intro Lq aq wq hd hj Kq hK
              rw [if_pos (wanted_none rfl)]
              have f0 := hj.base 0 rfl rfl
              exact opMove hK rfl (ev f0) rfl),
            (by
              intro Lq aq wq hd hj Kq hK
              rw [if_pos (wanted_none rfl)]
              have f5 := hj.base 5 rfl rfl
              exact opMove hK rfl (ev f5) rfl),
            (by
              intro Lq aq wq hd hj Kq hK
              rw [if_pos (wanted_none rfl)]
              have f49 := hj.val 1 49 rfl rfl (by simp) rfl (hd ⟨1, .data⟩ (by simp) rfl)
              have f50 := hj.val 2 50 rfl rfl (by simp) rfl (hd ⟨2, .data⟩ (by simp) rfl)
              exact opIndex hK rfl (k := .i64) (i := (i : Int)) (ev f49) (ev f50) Try.underlying45 askSz (by omega) (by omega) (congrArg (fun z => Value.pointer (some (ad.add (z * 5)))) (by omega))),
            (by
              intro Lq aq wq hd hj Kq hK
              rw [if_pos (wanted_none rfl)]
              have f51 := hj.val 3 51 rfl rfl (by simp) rfl (hd ⟨3, .data⟩ (by simp) rfl)
              exact opFieldG hK rfl (k := 1) (ev f51) (fun W => by kernel_rfl) rfl),
            (by
              intro Lq aq wq hd hj Kq hK
              rw [if_pos (wanted_none rfl)]
              have f52 := hj.val 4 52 rfl rfl (by simp) rfl (hd ⟨4, .data⟩ (by simp) rfl)
              first
                | exact opLoad hK rfl (ev f52) Try.underlying3 rfl (Ext.cell ((Ext.refl None_ wr).drew.trans0 hj.ext) d1 (fun a => a)) rfl
                | exact opLoad hK rfl (ev f52) Try.underlying3 rfl (Ext.cell ((Ext.refl None_ wr).drew.trans0 hj.ext) d2 (fun a => a)) rfl),
            (by
              intro Lq aq wq hd hj Kq hK
              rw [if_pos (wanted_none rfl)]
              have f0 := hj.base 0 rfl rfl
              exact opMove hK rfl (ev f0) rfl),
            (by
              intro Lq aq wq hd hj Kq hK
              rw [if_pos (wanted_none rfl)]
              have f5 := hj.base 5 rfl rfl
              exact opMove hK rfl (ev f5) rfl),
            (by
              intro Lq aq wq hd hj Kq hK
              rw [if_pos (wanted_none rfl)]
              have f54 := hj.val 6 54 rfl rfl (by simp) rfl (hd ⟨6, .data⟩ (by simp) rfl)
              have f55 := hj.val 7 55 rfl rfl (by simp) rfl (hd ⟨7, .data⟩ (by simp) rfl)
              exact opIndex hK rfl (k := .i64) (i := (i : Int)) (ev f54) (ev f55) Try.underlying45 askSz (by omega) (by omega) (congrArg (fun z => Value.pointer (some (ad.add (z * 5)))) (by omega))),
            (by
              intro Lq aq wq hd hj Kq hK
              rw [if_pos (wanted_none rfl)]
              have f56 := hj.val 8 56 rfl rfl (by simp) rfl (hd ⟨8, .data⟩ (by simp) rfl)
              exact opFieldG hK rfl (k := 2) (ev f56) (fun W => by kernel_rfl) rfl),
            (by
              intro Lq aq wq hd hj Kq hK
              rw [if_pos (wanted_none rfl)]
              have f57 := hj.val 9 57 rfl rfl (by simp) rfl (hd ⟨9, .data⟩ (by simp) rfl)
              first
                | exact opLoad hK rfl (ev f57) Try.underlying3 rfl (Ext.cell ((Ext.refl None_ wr).drew.trans0 hj.ext) d1 (fun a => a)) rfl
                | exact opLoad hK rfl (ev f57) Try.underlying3 rfl (Ext.cell ((Ext.refl None_ wr).drew.trans0 hj.ext) d2 (fun a => a)) rfl),
            trivial⟩ ?fin
          case fin =>
            intro vs w9 hx hg
            have v0 : vs 0 = _ := hg 0 (by decide)
            have v5 : vs 5 = _ := hg 5 (by decide)
            have v10 : vs 10 = _ := hg 10 (by decide)
            have X := Lib.hid ((Ext.refl None_ wr).drew.trans0 hx)
            clear hx hg
            simp only [List.dropLast, List.getLast?, List.getLast, Option.toList, putAll, v0, v5, v10, Nat.reduceAdd, Nat.zero_add]
            simp only [Act.put, List.setIfInBounds_toArray, List.set_cons_succ, List.set_cons_zero]
            have HL9 := Lib.hid (hlw.out.ext0 X.out)
            go_wp2_with (go_at_call 26; refine (lw_cut HL9.out a.file a.at_ (by omega)).mono ?_; rintro e wZ ⟨rfl, h3, _⟩; have HZ := Lib.hid h3; clear h3)
            go_roundw
            case rel => exact ⟨i + 1, _, by go_num, by omega, by omega, Lib.hid n1, HZ⟩
            case measure => simp [intOf]; omega
        · by_cases hk3 : a.kind = 3
          · replace hk := hk3
            rw [hk] at d0
            obtain ⟨n1, _, n4⟩ := calm_sync hcalm.out
            go_wp2_with (go_at_call 25; refine (lw_sync hlw.out).mono ?_; rintro e wZ ⟨rfl, h3, _⟩; have HZ := Lib.hid h3; clear h3)
            go_roundw
            case rel => exact ⟨i + 1, _, by go_num, by omega, by omega, Lib.hid n1, HZ⟩
            case measure => simp [intOf]; omega
          · have hk1' : (a.kind == 1) = false := by simp [hk]
            have hk2' : (a.kind == 2) = false := by simp [hk2]
            have hk3' : (a.kind == 3) = false := by simp [hk3]
            go_wp2_with fail
            go_roundw
            case rel => exact ⟨i + 1, D, by go_num, by omega, by omega, hcalm, hlw⟩
            case measure => simp [intOf]; omega
    · by_cases ha : i < l.length
      · have hb : 40 ≤ i := by omega
        obtain ⟨n1, n2, n4⟩ := calm_sync hcalm.out
        have HSY := Lib.hid (synced_sync hcalm.out)
        have HN2 := Lib.hid n2
        clear hend n1 n2 n4
        go_wp2_with (go_at_call 25; refine (lw_sync hlw.out).mono ?_; rintro e wZ ⟨h9, h3, _⟩; rw [HN2.out] at h9; subst h9; have HZ := Lib.hid h3; clear h3)
        go_ret
        exact ⟨g, _, rfl, HSY.out, HZ.out⟩
      · obtain ⟨n1, n2, n4⟩ := calm_sync hcalm.out
        have HSY := Lib.hid (synced_sync hcalm.out)
        have HN2 := Lib.hid n2
        clear hend n1 n2 n4
        go_wp2_with (go_at_call 25; refine (lw_sync hlw.out).mono ?_; rintro e wZ ⟨h9, h3, _⟩; rw [HN2.out] at h9; subst h9; have HZ := Lib.hid h3; clear h3)
        go_ret
        exact ⟨g, _, rfl, HSY.out, HZ.out⟩
end Go.Proofs.Ytakcdmmniaipeaa
