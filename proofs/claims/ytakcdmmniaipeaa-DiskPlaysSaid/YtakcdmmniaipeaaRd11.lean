/- draylaw20, walked: DiskPlays. Written by gen_rd11.py. -/
import Derived.Test.YtakcdmmniaipeaaRd10
set_option linter.unusedVariables false
set_option linter.unusedSimpArgs false
namespace Go.Proofs.Ytakcdmmniaipeaa
open Go.RowKit B
theorem callD_any (w0 W : World) (g gr : Nat) (D : DS) (h : Two w0 [] g D gr D W) (kind file at_ n : Int) (data : List Int) (B : Option Addr) (cb : Nat) (hq : AskOk w0 ⟨kind, file, at_, n, data⟩ B cb) (hwl : D.wait.length ≤ 900) : Calls Try.prog 32 #[.pointer (some ⟨g, 0, none⟩), .pointer (some ⟨gr, 0, none⟩), .agg #[.int .i64 kind, .int .i64 file, .int .i64 at_, .int .i64 n, .slice B data.length cb]] W (CallP w0 D) := by
  by_cases k1 : kind = 1
  · subst k1; exact call_write w0 W g gr D h file at_ n data B cb hq hwl
  · by_cases k2 : kind = 2
    · subst k2; exact call_cut w0 W g gr D h file at_ n data B cb hq hwl
    · by_cases k3 : kind = 3
      · subst k3; exact call_sync w0 W g gr D h file at_ n data B cb hq hwl
      · by_cases k4 : kind = 4
        · subst k4; exact call_arm w0 W g gr D h file at_ n data B cb hq hwl
        · by_cases k5 : kind = 5
          · subst k5; exact call_crash w0 W g gr D h file at_ n data B cb hq hwl
          · by_cases k6 : kind = 6
            · subst k6; exact call_wipe w0 W g gr D h file at_ n data B cb hq hwl
            · exact call_none w0 W g gr D h kind file at_ n data B cb hq hwl k1 k2 k3 k4 k5 k6
set_option maxRecDepth 100000 in
set_option maxHeartbeats 16000000 in
theorem DiskPlays_any (quota : Int) (hq : I64 quota) (A0 : Option Addr) (cap : Nat) (l : List (Ask × Option Addr × Nat)) (w : World) (hl : Aks w A0 l) (hlen : l.length ≤ 140737488351232) : Calls Try.prog 10 #[.int .i64 quota, .slice A0 l.length cap] w fun e w' => e = .returned (.bool true) ∧ Ext None_ w w' := by
  have HL := Lib.hid hl
  clear hl
  by_cases hb : quota < 0 ∨ 1048576 < quota
  · go_enter Try.func10, Try.ntmps10
    go_wp2_with fail
    refine (DNew_bad quota w hb).mono ?_
    rintro e w1 ⟨rfl, x1⟩
    have X1 := Lib.hid x1
    clear x1
    go_wp2_with fail
    refine (rnew_bad quota w1 hb).mono ?_
    rintro e w2 ⟨rfl, x2⟩
    have X2 := Lib.hid (X1.out.trans0 x2)
    clear x2 X1
    go_wp2_with fail
    refine (DiskRuns_any _).mono ?_
    rintro e w3 ⟨rfl, x3⟩
    have X3 := Lib.hid (X2.out.trans0 x3)
    clear x3 X2
    go_wp2_with fail
    go_ret
    exact ⟨rfl, X3.out⟩
  · have hq0 : 0 ≤ quota := by omega
    have hq1 : quota ≤ 1048576 := by omega
    clear hb
    go_enter Try.func10, Try.ntmps10
    go_wp2_with fail
    refine (DNew_ok quota w hq0 hq1).mono ?_
    rintro e w1 ⟨g, rfl, hd, x1⟩
    have HD := Lib.hid hd
    have X1 := Lib.hid x1
    clear hd x1
    go_wp2_with fail
    refine (rnew_ok quota w1 hq0 hq1).mono ?_
    rintro e w2 ⟨gr, rfl, hr, hg, x2⟩
    have HT := Lib.hid (two_new (w0 := w) HD.out (fun k h => h) (fun k h => h.elim) X1.out x2 hr (fun k h => h.1) hg)
    clear hr hg x2 HD X1
    go_wp2_with fail
    go_loopw [5, 7, 9] (fun v5 v7 v9 wr => ∃ (i g gr : Nat) (D : DS), v5 = .pointer (some ⟨g, 0, none⟩) ∧ v7 = .pointer (some ⟨gr, 0, none⟩) ∧ v9 = .int .i64 i ∧ i ≤ 60 ∧ D.wait.length ≤ i ∧ Hid (Two w [] g D gr D wr)) (fun _ _ v9 _ => 60 - (intOf v9).toNat)
    case atStart => exact ⟨0, g, gr, _, rfl, rfl, rfl, by omega, by simp [emptyD], HT⟩
    case round =>
      clear HT
      obtain ⟨i, g, gr, D, rfl, rfl, rfl, hi, hwl, h2⟩ := hrel
      by_cases h1 : i < l.length
      · by_cases h60 : i < 60
        · obtain ⟨q, hqe⟩ : ∃ q, q = l[i] := ⟨_, rfl⟩
          obtain ⟨ad, hA0, ⟨k0, k1, k2, k3, k4⟩, hok⟩ := HL.out i q (by rw [hqe]; exact List.getElem?_eq_getElem h1)
          subst hA0
          obtain ⟨⟨⟨kd, fl, pa, nn, dt⟩, B, cb⟩, hq2⟩ : ∃ r : Ask × Option Addr × Nat, r = q := ⟨q, rfl⟩
          rw [← hq2] at k0 k1 k2 k3 k4 hok
          simp only at k0 k1 k2 k3 k4 hok
          have hx0 := h2.out.x
          have d0 := hx0.cell k0 (fun a => a)
          have d1 := hx0.cell k1 (fun a => a)
          have d2 := hx0.cell k2 (fun a => a)
          have d3 := hx0.cell k3 (fun a => a)
          have d4 := hx0.cell k4 (fun a => a)
          have HOK := Lib.hid hok
          have HK1 := Lib.hid k1
          clear hqe hq2 k0 k1 k2 k3 k4 hx0 hok
          go_wp2_with fail
          refine (callD_any w wr g gr D h2.out kd fl pa nn dt B cb HOK.out (by omega)).mono ?_
          rintro e w3 ⟨g', gr', D', rfl, h3, hl3⟩
          have H3 := Lib.hid h3
          have e1 := h3.x.cell HK1.out (fun a => a)
          clear h3 h2 d0 d1 d2 d3 d4
          go_wp2_with fail
          refine (sameD_any H3.out fl).mono ?_
          rintro e w4 ⟨rfl, x4⟩
          have H4 := Lib.hid (H3.out.ext0 x4)
          clear x4 H3 e1
          go_wp2_with fail
          go_roundw
          case rel => exact ⟨i + 1, g', gr', D', rfl, rfl, by go_num, by omega, by omega, H4⟩
          case measure => simp [intOf]; omega
        · skip
          go_wp2_with fail
          go_loopw [13] (fun v13 wx => ∃ (x : Int), v13 = .int .i64 x ∧ -1 ≤ x ∧ x ≤ 65 ∧ Hid (Two w [] g D gr D wx)) (fun v13 _ => (65 - intOf v13).toNat)
          case atStart => exact ⟨-1, rfl, by omega, by omega, h2⟩
          case round =>
            clear h2
            obtain ⟨x, rfl, hx0, hx1, h2⟩ := hrel
            by_cases hxe : x ≤ 64
            · go_wp2_with fail
              refine (sameD_any h2.out x).mono ?_
              rintro e w3 ⟨rfl, x3⟩
              have H3 := Lib.hid (h2.out.ext0 x3)
              clear x3 h2
              go_wp2_with fail
              go_roundw
              case rel => exact ⟨x + 1, by go_num, by omega, by omega, H3⟩
              case measure => simp [intOf]; omega
            · go_wp2_with fail
              refine (DiskRuns_any _).mono ?_
              rintro e w3 ⟨rfl, x3⟩
              have H3 := Lib.hid (h2.out.x.trans0 x3)
              clear x3 h2
              go_wp2_with fail
              go_ret
              exact ⟨rfl, H3.out⟩
      · skip
        go_wp2_with fail
        go_loopw [13] (fun v13 wx => ∃ (x : Int), v13 = .int .i64 x ∧ -1 ≤ x ∧ x ≤ 65 ∧ Hid (Two w [] g D gr D wx)) (fun v13 _ => (65 - intOf v13).toNat)
        case atStart => exact ⟨-1, rfl, by omega, by omega, h2⟩
        case round =>
          clear h2
          obtain ⟨x, rfl, hx0, hx1, h2⟩ := hrel
          by_cases hxe : x ≤ 64
          · go_wp2_with fail
            refine (sameD_any h2.out x).mono ?_
            rintro e w3 ⟨rfl, x3⟩
            have H3 := Lib.hid (h2.out.ext0 x3)
            clear x3 h2
            go_wp2_with fail
            go_roundw
            case rel => exact ⟨x + 1, by go_num, by omega, by omega, H3⟩
            case measure => simp [intOf]; omega
          · go_wp2_with fail
            refine (DiskRuns_any _).mono ?_
            rintro e w3 ⟨rfl, x3⟩
            have H3 := Lib.hid (h2.out.x.trans0 x3)
            clear x3 h2
            go_wp2_with fail
            go_ret
            exact ⟨rfl, H3.out⟩
theorem DiskPlays_row (quota : Int) (hq : (Lit.int .i64 quota).wf = true) (x : AkX) {w : World} (hx : x.ok w) : Calls Try.prog 10 #[.int .i64 quota, x.v] w fun e w' => e = .returned (.bool true) ∧ Ext None_ w w' :=
  DiskPlays_any quota (i64_of hq) x.2.1 x.2.2 x.1 w hx.1 hx.2
end Go.Proofs.Ytakcdmmniaipeaa
