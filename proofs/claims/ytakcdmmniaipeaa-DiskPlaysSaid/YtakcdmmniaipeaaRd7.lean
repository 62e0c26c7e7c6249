/- The document's disk, walked: Write. Written by gen_rd7.py. -/
import Derived.Test.YtakcdmmniaipeaaRd6
import Derived.Deep.CutBlock
set_option linter.unusedVariables false
set_option linter.unusedSimpArgs false
namespace Go.Proofs.Ytakcdmmniaipeaa
open Go.RowKit B
theorem RLeft.trans0 {w w1 w2 : World} {Z : Nat → Prop} {g : Nat} {D : DS} (h : RLeft w w1 Z g D) (hx : Ext None_ w1 w2) : RLeft w w2 Z g D := by
  obtain ⟨Z', h1, h2, h3⟩ := h
  exact ⟨Z', h1.ext0 hx, h2.trans0 hx, h3⟩
theorem blk_rng {w : World} {g : Nat} {cs : Array Value} {t : TypeId} (h : Blk w g cs t) : w.rangeAt g 0 cs.toList := fun j v hj => by
  rw [Nat.zero_add, h.cell]
  simpa using hj
/-! ### the words of the region that appends a change -/
def SP9 (w6 : World) (g : Nat) : Nat → Nat → Prop := fun j k => (j = 1 ∧ w6.heap.size ≤ k) ∨ (j = 2 ∧ k = g)
def cE0 (w6 : World) (g : Nat) : CG (SP9 w6 g) := cR 0 0 (fun u W => ∃ b, u = .slice (some ⟨b, 0, none⟩) 0 0 ∧ Own W 109 4 (fun k => w6.heap.size ≤ k) (.slice (some ⟨b, 0, none⟩) 0 0) 0 []) (fun _ _ _ ⟨b, h1, h2⟩ hx => ⟨b, h1, h2.ext0 hx⟩) (fun k h1 h2 => by omega)
def cOwC (w6 : World) (g n : Nat) (vs : List Value) : CG (SP9 w6 g) := cR 1 1 (fun u W => Own W 109 4 (fun k => w6.heap.size ≤ k) u n vs) (fun _ _ _ h hx => h.ext0 hx) (fun k h1 h2 => by omega)
def cRowR (w6 : World) (g : Nat) (vs : List Value) : CG (SP9 w6 g) := cR 0 1 (fun u W => ∃ b, u = .slice (some ⟨b, 0, none⟩) 1 1 ∧ Row W (some ⟨b, 0, none⟩) vs) (fun _ _ _ ⟨b, h1, h2⟩ hx => ⟨b, h1, h2.ext0 hx⟩) (fun k h1 h2 _ _ _ ⟨b, h3, h4⟩ hx => ⟨b, h3, h4.ext hx (fun ad e hs => by unfold SP9 at hs; omega)⟩)
def cRWn (w6 : World) (g : Nat) (Z : Nat → Prop) (ch : List Chg) : CG (SP9 w6 g) := cR 2 2 (fun u W => RW W Z u ch) (fun _ _ _ h hx => h.ext0 hx) (fun k h1 h2 => by omega)
theorem stepF_wr (fs : List (List Int)) (n zn : Nat) (p : List Int) : stepF fs ⟨false, n, zn, p⟩ = fs.set n (wrF (fileAt fs n) zn p) := rfl
set_option maxRecDepth 100000 in
set_option maxHeartbeats 16000000 in
theorem rwrite_full (w : World) (Z : Nat → Prop) (g : Nat) (D1 : DS) (n zn : Nat) (A2 : Option Addr) (cp0 : Nat) (p l : List Int) (hn64 : n < 64) (hzn : zn ≤ 1048576) (HT : Hid (∀ W, Calls Try.prog 80 #[.int .i64 n] W fun e w' => e = .returned (.bool true) ∧ W = w')) (HC : Hid (Calls Try.prog 79 #[.pointer (some ⟨g, 0, none⟩)] w fun e w' => e = .returned (.bool true) ∧ RD w' Z g D1 ∧ Ext (fun k => k = g) w w')) (hlw : D1.wait.length + 1 ≤ 1000) (HLE : Hid (l = fileAt D1.files n)) (HP : Hid (∀ W, Ext (fun k => k = g) w W → Row W A2 (B8 p))) (HBY : Hid (Byt p)) (hpl : p.length ≤ 140737488352000) (hc1 : (l.length : Int) < zn + p.length) (hfu : D1.quota < heldN D1.files - l.length + zn + p.length) : Calls Try.prog 56 #[.pointer (some ⟨g, 0, none⟩), .int .i64 n, .int .i64 zn, .slice A2 p.length cp0] w fun e w' => e = .returned (.int .i64 10) ∧ RLeft w w' Z g D1 := by
  go_enter Try.func56, Try.ntmps56
  go_wp2_with fail
  refine HC.out.mono ?_
  rintro e w1 ⟨rfl, hd, hx⟩
  have HD := Lib.hid hd
  have HX := Lib.hid hx
  clear hd hx HC
  go_wp2_with fail
  refine (HT.out w1).mono ?_
  rintro e wf ⟨rfl, rfl⟩
  obtain ⟨b0, cx, A0, c2, ⟨_, k1, k2, _, _⟩, cf, _, hrw⟩ := HD.out.at_.cells
  obtain ⟨A0', c0', pv, e0, w1c, w2c, hpl, hrow, hAb, hsl⟩ := hrw
  obtain ⟨rfl, rfl⟩ : A0 = A0' ∧ c2 = c0' := by
    have := e0
    simp at this
    exact this
  have HROW := Lib.hid hrow
  have HSL := Lib.hid hsl
  have HPL := Lib.hid hpl
  obtain ⟨wl, hwl⟩ : ∃ x, x = D1.wait.length := ⟨_, rfl⟩
  have HWL := Lib.hid hwl
  rw [← hwl] at k1 w1c hlw
  have HRL : Hid ((rchs D1.wait pv).length = wl * 4) := Lib.hid (by rw [rchs_length _ _ hpl, hwl])
  have HOW : Hid (OwnB (w1.alloc (.cells #[] 5)) (fun k => w1.heap.size ≤ k) (.slice (some ⟨w1.heap.size, 0, none⟩) 0 0) []) := Lib.hid ((Own.made (e := 5) (size := 1) w1 #[] 0 (by simp [maxLen]) rfl).mono (fun k _ e => by omega))
  have HP1 := Lib.hid (HP.out w1 HX.out)
  have hq0 := HD.out.ok.q0
  have hq1 := HD.out.ok.q1
  have hhb := heldN_bound' HD.out.ok
  have HSM := Lib.hid HD.out.ok.fl
  have hll : l.length ≤ 1048576 := by rw [HLE.out]; exact HD.out.ok.fl _ (fileAt_mem (by rw [HD.out.ok.f64]; exact hn64))
  clear e0 hrow hAb hsl hpl hwl HP
  go_wp2_with (at_builtin; refine wpList_app0 rfl (.tmp 28) (.tmp 29) 22 rfl 5 (.int .u8 0) 1 1 Try.underlying22 infoU8 rfl (by decide) (by decide) _ w1.heap.size rfl HOW.out A2 p.length cp0 (B8 p) rfl (by rw [B8_length, Nat.mul_one]) (HP1.out.ext0 (x0 w1 _)) (B8_one _) (by omega) ?_; intro v3 w3 ho3 hx3; obtain ⟨Ap, cp, rfl, hpc, _, _⟩ := Own.slice ho3; have HO3 : Hid (OwnB w3 (fun k => w1.heap.size ≤ k) (.slice Ap p.length cp) p) := Lib.hid (ho3.mono (fun k _ h => by simp at h; omega)); have HX3 : Hid (Ext None_ w1 w3) := Lib.hid ((x0 w1 _).trans0 hx3); clear ho3 hx3)
  have HX4 : Hid (Ext None_ w1 (w3.alloc (.cells #[.int .i64 n, .int .i64 zn, .int .i64 (-1), .slice Ap p.length cp] 109))) := Lib.hid (HX3.out.alloc _)
  obtain ⟨w4, hw4⟩ : ∃ x, x = w3.alloc (.cells #[.int .i64 n, .int .i64 zn, .int .i64 (-1), .slice Ap p.length cp] 109) := ⟨_, rfl⟩
  have HB4 : Hid (Blk w4 w3.heap.size #[.int .i64 n, .int .i64 zn, .int .i64 (-1), .slice Ap p.length cp] 109) := Lib.hid (hw4 ▸ Blk.new w3 _ _)
  rw [← hw4] at HX4
  rw [← hw4]
  refine (rnow_any w4 Z g D1 (HD.out.ext0 HX4.out)).mono ?_
  rintro e w5 ⟨v', rfl, hr, hx5⟩
  obtain ⟨b, c, A, cc, rfl, h1, h2, h3, h4, _⟩ := hr.file (i := n) (by rw [HD.out.ok.f64]; exact hn64)
  have h64 := HD.out.ok.f64
  rw [← HLE.out] at h3 h4
  have HX5 := Lib.hid (HX4.out.trans0 hx5)
  have HB9 := Lib.hid (HB4.out.ext hx5 (fun a => a))
  have HRF := Lib.hid hr
  have HSP : Hid (Sl w5 (Zx w1 Z) (.slice Ap p.length cp) p) := Lib.hid (Sl.own (OwnB.ext0 HO3.out ((by rw [hw4]; exact x0 w3 _ : Ext None_ w3 w4).trans0 hx5)) HBY.out (fun k _ h => .inr h))
  have q2 := HX5.out.cell k2 (fun a => a)
  have HW34 := Lib.hid hw4
  clear hr hx5 hw4 HB4 HO3 HX3 HX4 HOW HP1 k2
  rw [h64] at h1 HRF ⊢
  obtain ⟨L1, hL1⟩ : ∃ x : Nat, x = max l.length zn := ⟨_, rfl⟩
  obtain ⟨L, hL⟩ : ∃ x : Nat, x = max l.length (zn + p.length) := ⟨_, rfl⟩
  have HL1 := Lib.hid hL1
  have HLL := Lib.hid hL
  clear hL1 hL
  go_upto_if 41 with fail
  go_cut [11] from 42 (fun v11 wx => v11 = .int .i64 L1 ∧ w5 = wx)
  case first =>
    by_cases hz : l.length < zn
    · have hL2 : Hid (L1 = zn) := Lib.hid (by have := HL1.out; omega)
      go_wp2_with fail
      all_goals go_meet
      all_goals exact ⟨by rw [hL2.out], rfl⟩
    · have hL2 : Hid (L1 = l.length) := Lib.hid (by have := HL1.out; omega)
      go_wp2_with fail
      all_goals go_meet
      all_goals exact ⟨by rw [hL2.out], rfl⟩
  case rest =>
    obtain ⟨rfl, rfl⟩ := hcut
    go_upto_if 48 with fail
    go_cut [11] from 49 (fun v11 wx => v11 = .int .i64 L ∧ w5 = wx)
    case first =>
      by_cases hz : L1 < zn + p.length
      · have hL2 : Hid ((L : Int) = zn + p.length) := Lib.hid (by have := HLL.out; have := HL1.out; omega)
        go_wp2_with fail
        all_goals go_meet
        all_goals exact ⟨by rw [hL2.out], rfl⟩
      · have hL2 : Hid (L = L1) := Lib.hid (by have := HLL.out; have := HL1.out; omega)
        go_wp2_with fail
        all_goals go_meet
        all_goals exact ⟨by rw [hL2.out], rfl⟩
    case rest =>
      obtain ⟨rfl, rfl⟩ := hcut
      have hLb : L ≤ 140737490000000 := by have := HLL.out; omega
      clear HL1
      go_wp2_with fail
      have hL3 : (L : Int) = zn + p.length := by have := HLL.out; omega
      refine wp_region_mem [sv _, sv _, sv _, sv (.pointer (some ⟨b, n, none⟩)), sv (.slice A l.length cc), sv _, sv (.bool true), sv (.bool true), sv _, sv (.int .i64 (heldN D1.files)), sv _, sv _, sv (.pointer (some ⟨b, n, none⟩)), sv (.slice A l.length cc), sv _, sv _, sv _, sv _, sv _, sv _, sv _, sv (.int .i64 D1.quota), sv (.bool true), sv (.bool true)] (by kernel_rfl) rfl rfl rfl rfl ⟨
        (by
          intro Lq aq wq hd hj Kq hK
          rw [if_pos (wanted_none rfl)]
          have f11 := hj.base 11 rfl rfl
          exact opMove hK rfl (ev f11) rfl),
        (by
          intro Lq aq wq hd hj Kq hK
          rw [if_pos (wanted_none rfl)]
          have f10 := hj.base 10 rfl rfl
          exact opMove hK rfl (ev f10) rfl),
        (by
          intro Lq aq wq hd hj Kq hK
          rw [if_pos (wanted_none rfl)]
          have f1 := hj.base 1 rfl rfl
          exact opMove hK rfl (ev f1) rfl),
        (by
          intro Lq aq wq hd hj Kq hK
          rw [if_pos (wanted_none rfl)]
          have f54 := hj.val 1 54 rfl rfl (by simp) rfl (hd ⟨1, .data⟩ (by simp) rfl)
          have f55 := hj.val 2 55 rfl rfl (by simp) rfl (hd ⟨2, .data⟩ (by simp) rfl)
          exact opIndexB hK rfl (j := n) (ev f54) (ev f55) Try.underlying59 infoSl (by omega) (by omega) (by simp) rfl),
        (by
          intro Lq aq wq hd hj Kq hK
          rw [if_pos (wanted_none rfl)]
          have f56 := hj.val 3 56 rfl rfl (by simp) rfl (hd ⟨3, .data⟩ (by simp) rfl)
          exact opLoad hK rfl (ev f56) Try.underlying22 rfl (Ext.cell ((Ext.refl None_ w5).drew.trans0 hj.ext) h3 (fun a => a)) rfl),
        (by
          intro Lq aq wq hd hj Kq hK
          rw [if_pos (wanted_none rfl)]
          have f57 := hj.val 4 57 rfl rfl (by simp) rfl (hd ⟨4, .data⟩ (by simp) rfl)
          exact opLen hK rfl (ev f57) (by kernel_rfl) rfl),
        (by
          intro Lq aq wq hd hj Kq hK
          rw [if_pos (wanted_none rfl)]
          have f53 := hj.val 0 53 rfl rfl (by simp) rfl (hd ⟨0, .data⟩ (by simp) rfl)
          have f58 := hj.val 5 58 rfl rfl (by simp) rfl (hd ⟨5, .data⟩ (by simp) rfl)
          exact opBin hK rfl (ev f53) (ev f58) (guardInt _ _ _ _ _ _ _ _ _) (binGt _ _ _ _ _) (congrArg Value.bool (by first | rfl | assumption | (simp; omega) | (simp [*]; done)))),
        (by
          intro Lq aq wq hd hj Kq hK
          rw [if_pos (wanted_none rfl)]
          have f59 := hj.val 6 59 rfl rfl (by simp) rfl (hd ⟨6, .data⟩ (by simp) rfl)
          exact opMove hK rfl (ev f59) rfl),
        (by
          intro Lq aq wq hd hj Kq hK
          have fg := hj.val 7 60 rfl rfl (by simp) rfl (hd ⟨7, .guard⟩ (by simp) rfl)
          rw [wanted_some (c := true) rfl rfl rfl fg, if_pos (by rfl)]
          have f10 := hj.base 10 rfl rfl
          exact opMove hK rfl (ev f10) rfl),
        (by
          intro Lq aq wq hd hj Kq hK
          have fg := hj.val 7 60 rfl rfl (by simp) rfl (hd ⟨7, .guard⟩ (by simp) rfl)
          rw [wanted_some (c := true) rfl rfl rfl fg, if_pos (by rfl)]
          have f61 := hj.val 8 61 rfl rfl (by simp) rfl (hd ⟨8, .data⟩ (by simp) rfl)
          exact opCall hK Try.func82 (by kernel_rfl) rfl (args := #[.slice (some ⟨b, 0, none⟩) 64 c]) (by simp [ev f61]) ((used_any wq (Zx w4 Z) _ D1.files (HRF.out.ext0 ((Ext.refl None_ w5).drew.trans0 hj.ext)) h64 HSM.out).mono fun e w' ⟨h1, h2⟩ => ⟨_, h1, rfl, h2⟩)),
        (by
          intro Lq aq wq hd hj Kq hK
          have fg := hj.val 7 60 rfl rfl (by simp) rfl (hd ⟨7, .guard⟩ (by simp) rfl)
          rw [wanted_some (c := true) rfl rfl rfl fg, if_pos (by rfl)]
          have f10 := hj.base 10 rfl rfl
          exact opMove hK rfl (ev f10) rfl),
        (by
          intro Lq aq wq hd hj Kq hK
          have fg := hj.val 7 60 rfl rfl (by simp) rfl (hd ⟨7, .guard⟩ (by simp) rfl)
          rw [wanted_some (c := true) rfl rfl rfl fg, if_pos (by rfl)]
          have f1 := hj.base 1 rfl rfl
          exact opMove hK rfl (ev f1) rfl),
        (by
          intro Lq aq wq hd hj Kq hK
          have fg := hj.val 7 60 rfl rfl (by simp) rfl (hd ⟨7, .guard⟩ (by simp) rfl)
          rw [wanted_some (c := true) rfl rfl rfl fg, if_pos (by rfl)]
          have f63 := hj.val 10 63 rfl rfl (by simp) rfl (hd ⟨10, .data⟩ (by simp) rfl)
          have f64 := hj.val 11 64 rfl rfl (by simp) rfl (hd ⟨11, .data⟩ (by simp) rfl)
          exact opIndexB hK rfl (j := n) (ev f63) (ev f64) Try.underlying59 infoSl (by omega) (by omega) (by simp) rfl),
        (by
          intro Lq aq wq hd hj Kq hK
          have fg := hj.val 7 60 rfl rfl (by simp) rfl (hd ⟨7, .guard⟩ (by simp) rfl)
          rw [wanted_some (c := true) rfl rfl rfl fg, if_pos (by rfl)]
          have f65 := hj.val 12 65 rfl rfl (by simp) rfl (hd ⟨12, .data⟩ (by simp) rfl)
          exact opLoad hK rfl (ev f65) Try.underlying22 rfl (Ext.cell ((Ext.refl None_ w5).drew.trans0 hj.ext) h3 (fun a => a)) rfl),
        (by
          intro Lq aq wq hd hj Kq hK
          have fg := hj.val 7 60 rfl rfl (by simp) rfl (hd ⟨7, .guard⟩ (by simp) rfl)
          rw [wanted_some (c := true) rfl rfl rfl fg, if_pos (by rfl)]
          have f66 := hj.val 13 66 rfl rfl (by simp) rfl (hd ⟨13, .data⟩ (by simp) rfl)
          exact opLen hK rfl (ev f66) (by kernel_rfl) rfl),
        (by
          intro Lq aq wq hd hj Kq hK
          have fg := hj.val 7 60 rfl rfl (by simp) rfl (hd ⟨7, .guard⟩ (by simp) rfl)
          rw [wanted_some (c := true) rfl rfl rfl fg, if_pos (by rfl)]
          have f62 := hj.val 9 62 rfl rfl (by simp) rfl (hd ⟨9, .data⟩ (by simp) rfl)
          have f67 := hj.val 14 67 rfl rfl (by simp) rfl (hd ⟨14, .data⟩ (by simp) rfl)
          exact opBin hK rfl (ev f62) (ev f67) (guardInt _ _ _ _ _ _ _ _ _) (binSub _ _ _ _ (IntWalk.i64_in _ (by omega))) rfl),
        (by
          intro Lq aq wq hd hj Kq hK
          have fg := hj.val 7 60 rfl rfl (by simp) rfl (hd ⟨7, .guard⟩ (by simp) rfl)
          rw [wanted_some (c := true) rfl rfl rfl fg, if_pos (by rfl)]
          have f11 := hj.base 11 rfl rfl
          exact opMove hK rfl (ev f11) rfl),
        (by
          intro Lq aq wq hd hj Kq hK
          have fg := hj.val 7 60 rfl rfl (by simp) rfl (hd ⟨7, .guard⟩ (by simp) rfl)
          rw [wanted_some (c := true) rfl rfl rfl fg, if_pos (by rfl)]
          have f68 := hj.val 15 68 rfl rfl (by simp) rfl (hd ⟨15, .data⟩ (by simp) rfl)
          have f69 := hj.val 16 69 rfl rfl (by simp) rfl (hd ⟨16, .data⟩ (by simp) rfl)
          exact opBin hK rfl (ev f68) (ev f69) (guardInt _ _ _ _ _ _ _ _ _) (binAdd _ _ _ _ (IntWalk.i64_in _ (by omega))) rfl),
        (by
          intro Lq aq wq hd hj Kq hK
          have fg := hj.val 7 60 rfl rfl (by simp) rfl (hd ⟨7, .guard⟩ (by simp) rfl)
          rw [wanted_some (c := true) rfl rfl rfl fg, if_pos (by rfl)]
          have f0 := hj.base 0 rfl rfl
          exact opMove hK rfl (ev f0) rfl),
        (by
          intro Lq aq wq hd hj Kq hK
          have fg := hj.val 7 60 rfl rfl (by simp) rfl (hd ⟨7, .guard⟩ (by simp) rfl)
          rw [wanted_some (c := true) rfl rfl rfl fg, if_pos (by rfl)]
          have f71 := hj.val 18 71 rfl rfl (by simp) rfl (hd ⟨18, .data⟩ (by simp) rfl)
          exact opNil hK rfl (ev f71) rfl),
        (by
          intro Lq aq wq hd hj Kq hK
          have fg := hj.val 7 60 rfl rfl (by simp) rfl (hd ⟨7, .guard⟩ (by simp) rfl)
          rw [wanted_some (c := true) rfl rfl rfl fg, if_pos (by rfl)]
          have f72 := hj.val 19 72 rfl rfl (by simp) rfl (hd ⟨19, .data⟩ (by simp) rfl)
          exact opFieldA hK rfl (k := 2) (ev f72) (fun W => by kernel_rfl) rfl),
        (by
          intro Lq aq wq hd hj Kq hK
          have fg := hj.val 7 60 rfl rfl (by simp) rfl (hd ⟨7, .guard⟩ (by simp) rfl)
          rw [wanted_some (c := true) rfl rfl rfl fg, if_pos (by rfl)]
          have f73 := hj.val 20 73 rfl rfl (by simp) rfl (hd ⟨20, .data⟩ (by simp) rfl)
          exact opLoad hK rfl (ev f73) Try.underlying3 rfl (Ext.cell ((Ext.refl None_ w5).drew.trans0 hj.ext) q2 (fun a => a)) rfl),
        (by
          intro Lq aq wq hd hj Kq hK
          have fg := hj.val 7 60 rfl rfl (by simp) rfl (hd ⟨7, .guard⟩ (by simp) rfl)
          rw [wanted_some (c := true) rfl rfl rfl fg, if_pos (by rfl)]
          have f70 := hj.val 17 70 rfl rfl (by simp) rfl (hd ⟨17, .data⟩ (by simp) rfl)
          have f74 := hj.val 21 74 rfl rfl (by simp) rfl (hd ⟨21, .data⟩ (by simp) rfl)
          exact opBin hK rfl (ev f70) (ev f74) (guardInt _ _ _ _ _ _ _ _ _) (binGt _ _ _ _ _) (congrArg Value.bool (by first | rfl | assumption | (simp; omega) | (simp [*]; done)))),
        (by
          intro Lq aq wq hd hj Kq hK
          rw [if_pos (wanted_none rfl)]
          have f60 := hj.val 7 60 rfl rfl (by simp) rfl (hd ⟨7, .data⟩ (by simp) rfl)
          have f75 := hj.val 22 75 rfl rfl (by simp) rfl (hd ⟨22, .data⟩ (by simp) rfl)
          exact opPick hK rfl (b := true) (ev f60) ((if_pos rfl).trans (ev f75)) rfl),
        trivial⟩ ?fin
      case fin =>
        intro vs w6 hx hg
        have v23 : vs 23 = _ := hg 23 (by decide)
        have X6 := Lib.hid ((Ext.refl None_ w5).drew.trans0 hx)
        clear hx hg
        simp only [putAll, v23, Nat.reduceAdd, Nat.zero_add]
        simp only [Act.put, List.setIfInBounds_toArray, List.set_cons_succ, List.set_cons_zero]
        go_wp2_with fail
        go_ret
        exact ⟨rfl, Z, (HD.out.ext0 (HX5.out.trans0 X6.out)), HX.out.trans0 (HX5.out.trans0 X6.out), fun _ h => .inl h⟩
set_option maxRecDepth 100000 in
set_option maxHeartbeats 16000000 in
theorem rwrite_grow (w : World) (Z : Nat → Prop) (g : Nat) (D1 : DS) (n zn : Nat) (A2 : Option Addr) (cp0 : Nat) (p l : List Int) (hn64 : n < 64) (hzn : zn ≤ 1048576) (HT : Hid (∀ W, Calls Try.prog 80 #[.int .i64 n] W fun e w' => e = .returned (.bool true) ∧ W = w')) (HC : Hid (Calls Try.prog 79 #[.pointer (some ⟨g, 0, none⟩)] w fun e w' => e = .returned (.bool true) ∧ RD w' Z g D1 ∧ Ext (fun k => k = g) w w')) (hlw : D1.wait.length + 1 ≤ 1000) (HLE : Hid (l = fileAt D1.files n)) (HP : Hid (∀ W, Ext (fun k => k = g) w W → Row W A2 (B8 p))) (HBY : Hid (Byt p)) (hpl : p.length ≤ 140737488352000) (HOK : Hid (DS.ok { D1 with files := D1.files.set n (wrF l zn p), wait := D1.wait ++ [⟨false, n, zn, p⟩] })) (HF : Hid (D1.files.set n (wrF l zn p) = stepF D1.files ⟨false, n, zn, p⟩)) (hc1 : (l.length : Int) < zn + p.length) (hfu : heldN D1.files - l.length + zn + p.length ≤ D1.quota) : Calls Try.prog 56 #[.pointer (some ⟨g, 0, none⟩), .int .i64 n, .int .i64 zn, .slice A2 p.length cp0] w fun e w' => e = .returned (.int .i64 0) ∧ RLeft w w' Z g { D1 with files := D1.files.set n (wrF l zn p), wait := D1.wait ++ [⟨false, n, zn, p⟩] } := by
  go_enter Try.func56, Try.ntmps56
  go_wp2_with fail
  refine HC.out.mono ?_
  rintro e w1 ⟨rfl, hd, hx⟩
  have HD := Lib.hid hd
  have HX := Lib.hid hx
  clear hd hx HC
  go_wp2_with fail
  refine (HT.out w1).mono ?_
  rintro e wf ⟨rfl, rfl⟩
  obtain ⟨b0, cx, A0, c2, ⟨_, k1, k2, _, _⟩, cf, _, hrw⟩ := HD.out.at_.cells
  obtain ⟨A0', c0', pv, e0, w1c, w2c, hpl, hrow, hAb, hsl⟩ := hrw
  obtain ⟨rfl, rfl⟩ : A0 = A0' ∧ c2 = c0' := by
    have := e0
    simp at this
    exact this
  have HROW := Lib.hid hrow
  have HSL := Lib.hid hsl
  have HPL := Lib.hid hpl
  obtain ⟨wl, hwl⟩ : ∃ x, x = D1.wait.length := ⟨_, rfl⟩
  have HWL := Lib.hid hwl
  rw [← hwl] at k1 w1c hlw
  have HRL : Hid ((rchs D1.wait pv).length = wl * 4) := Lib.hid (by rw [rchs_length _ _ hpl, hwl])
  have HOW : Hid (OwnB (w1.alloc (.cells #[] 5)) (fun k => w1.heap.size ≤ k) (.slice (some ⟨w1.heap.size, 0, none⟩) 0 0) []) := Lib.hid ((Own.made (e := 5) (size := 1) w1 #[] 0 (by simp [maxLen]) rfl).mono (fun k _ e => by omega))
  have HP1 := Lib.hid (HP.out w1 HX.out)
  have hq0 := HD.out.ok.q0
  have hq1 := HD.out.ok.q1
  have hhb := heldN_bound' HD.out.ok
  have HSM := Lib.hid HD.out.ok.fl
  have hll : l.length ≤ 1048576 := by rw [HLE.out]; exact HD.out.ok.fl _ (fileAt_mem (by rw [HD.out.ok.f64]; exact hn64))
  clear e0 hrow hAb hsl hpl hwl HP
  go_wp2_with (at_builtin; refine wpList_app0 rfl (.tmp 28) (.tmp 29) 22 rfl 5 (.int .u8 0) 1 1 Try.underlying22 infoU8 rfl (by decide) (by decide) _ w1.heap.size rfl HOW.out A2 p.length cp0 (B8 p) rfl (by rw [B8_length, Nat.mul_one]) (HP1.out.ext0 (x0 w1 _)) (B8_one _) (by omega) ?_; intro v3 w3 ho3 hx3; obtain ⟨Ap, cp, rfl, hpc, _, _⟩ := Own.slice ho3; have HO3 : Hid (OwnB w3 (fun k => w1.heap.size ≤ k) (.slice Ap p.length cp) p) := Lib.hid (ho3.mono (fun k _ h => by simp at h; omega)); have HX3 : Hid (Ext None_ w1 w3) := Lib.hid ((x0 w1 _).trans0 hx3); clear ho3 hx3)
  have HX4 : Hid (Ext None_ w1 (w3.alloc (.cells #[.int .i64 n, .int .i64 zn, .int .i64 (-1), .slice Ap p.length cp] 109))) := Lib.hid (HX3.out.alloc _)
  obtain ⟨w4, hw4⟩ : ∃ x, x = w3.alloc (.cells #[.int .i64 n, .int .i64 zn, .int .i64 (-1), .slice Ap p.length cp] 109) := ⟨_, rfl⟩
  have HB4 : Hid (Blk w4 w3.heap.size #[.int .i64 n, .int .i64 zn, .int .i64 (-1), .slice Ap p.length cp] 109) := Lib.hid (hw4 ▸ Blk.new w3 _ _)
  rw [← hw4] at HX4
  rw [← hw4]
  refine (rnow_any w4 Z g D1 (HD.out.ext0 HX4.out)).mono ?_
  rintro e w5 ⟨v', rfl, hr, hx5⟩
  obtain ⟨b, c, A, cc, rfl, h1, h2, h3, h4, _⟩ := hr.file (i := n) (by rw [HD.out.ok.f64]; exact hn64)
  have h64 := HD.out.ok.f64
  rw [← HLE.out] at h3 h4
  have HX5 := Lib.hid (HX4.out.trans0 hx5)
  have HB9 := Lib.hid (HB4.out.ext hx5 (fun a => a))
  have HRF := Lib.hid hr
  have HSP : Hid (Sl w5 (Zx w1 Z) (.slice Ap p.length cp) p) := Lib.hid (Sl.own (OwnB.ext0 HO3.out ((by rw [hw4]; exact x0 w3 _ : Ext None_ w3 w4).trans0 hx5)) HBY.out (fun k _ h => .inr h))
  have q2 := HX5.out.cell k2 (fun a => a)
  have HW34 := Lib.hid hw4
  clear hr hx5 hw4 HB4 HO3 HX3 HX4 HOW HP1 k2
  rw [h64] at h1 HRF ⊢
  obtain ⟨L1, hL1⟩ : ∃ x : Nat, x = max l.length zn := ⟨_, rfl⟩
  obtain ⟨L, hL⟩ : ∃ x : Nat, x = max l.length (zn + p.length) := ⟨_, rfl⟩
  have HL1 := Lib.hid hL1
  have HLL := Lib.hid hL
  clear hL1 hL
  go_upto_if 41 with fail
  go_cut [11] from 42 (fun v11 wx => v11 = .int .i64 L1 ∧ w5 = wx)
  case first =>
    by_cases hz : l.length < zn
    · have hL2 : Hid (L1 = zn) := Lib.hid (by have := HL1.out; omega)
      go_wp2_with fail
      all_goals go_meet
      all_goals exact ⟨by rw [hL2.out], rfl⟩
    · have hL2 : Hid (L1 = l.length) := Lib.hid (by have := HL1.out; omega)
      go_wp2_with fail
      all_goals go_meet
      all_goals exact ⟨by rw [hL2.out], rfl⟩
  case rest =>
    obtain ⟨rfl, rfl⟩ := hcut
    go_upto_if 48 with fail
    go_cut [11] from 49 (fun v11 wx => v11 = .int .i64 L ∧ w5 = wx)
    case first =>
      by_cases hz : L1 < zn + p.length
      · have hL2 : Hid ((L : Int) = zn + p.length) := Lib.hid (by have := HLL.out; have := HL1.out; omega)
        go_wp2_with fail
        all_goals go_meet
        all_goals exact ⟨by rw [hL2.out], rfl⟩
      · have hL2 : Hid (L = L1) := Lib.hid (by have := HLL.out; have := HL1.out; omega)
        go_wp2_with fail
        all_goals go_meet
        all_goals exact ⟨by rw [hL2.out], rfl⟩
    case rest =>
      obtain ⟨rfl, rfl⟩ := hcut
      have hLb : L ≤ 140737490000000 := by have := HLL.out; omega
      clear HL1
      go_wp2_with fail
      have hL3 : (L : Int) = zn + p.length := by have := HLL.out; omega
      refine wp_region_mem [sv _, sv _, sv _, sv (.pointer (some ⟨b, n, none⟩)), sv (.slice A l.length cc), sv _, sv (.bool true), sv (.bool true), sv _, sv (.int .i64 (heldN D1.files)), sv _, sv _, sv (.pointer (some ⟨b, n, none⟩)), sv (.slice A l.length cc), sv _, sv _, sv _, sv _, sv _, sv _, sv _, sv (.int .i64 D1.quota), sv (.bool false), sv (.bool false)] (by kernel_rfl) rfl rfl rfl rfl ⟨
        (by
          intro Lq aq wq hd hj Kq hK
          rw [if_pos (wanted_none rfl)]
          have f11 := hj.base 11 rfl rfl
          exact opMove hK rfl (ev f11) rfl),
        (by
          intro Lq aq wq hd hj Kq hK
          rw [if_pos (wanted_none rfl)]
          have f10 := hj.base 10 rfl rfl
          exact opMove hK rfl (ev f10) rfl),
        (by
          intro Lq aq wq hd hj Kq hK
          rw [if_pos (wanted_none rfl)]
          have f1 := hj.base 1 rfl rfl
          exact opMove hK rfl (ev f1) rfl),
        (by
          intro Lq aq wq hd hj Kq hK
          rw [if_pos (wanted_none rfl)]
          have f54 := hj.val 1 54 rfl rfl (by simp) rfl (hd ⟨1, .data⟩ (by simp) rfl)
          have f55 := hj.val 2 55 rfl rfl (by simp) rfl (hd ⟨2, .data⟩ (by simp) rfl)
          exact opIndexB hK rfl (j := n) (ev f54) (ev f55) Try.underlying59 infoSl (by omega) (by omega) (by simp) rfl),
        (by
          intro Lq aq wq hd hj Kq hK
          rw [if_pos (wanted_none rfl)]
          have f56 := hj.val 3 56 rfl rfl (by simp) rfl (hd ⟨3, .data⟩ (by simp) rfl)
          exact opLoad hK rfl (ev f56) Try.underlying22 rfl (Ext.cell ((Ext.refl None_ w5).drew.trans0 hj.ext) h3 (fun a => a)) rfl),
        (by
          intro Lq aq wq hd hj Kq hK
          rw [if_pos (wanted_none rfl)]
          have f57 := hj.val 4 57 rfl rfl (by simp) rfl (hd ⟨4, .data⟩ (by simp) rfl)
          exact opLen hK rfl (ev f57) (by kernel_rfl) rfl),
        (by
          intro Lq aq wq hd hj Kq hK
          rw [if_pos (wanted_none rfl)]
          have f53 := hj.val 0 53 rfl rfl (by simp) rfl (hd ⟨0, .data⟩ (by simp) rfl)
          have f58 := hj.val 5 58 rfl rfl (by simp) rfl (hd ⟨5, .data⟩ (by simp) rfl)
          exact opBin hK rfl (ev f53) (ev f58) (guardInt _ _ _ _ _ _ _ _ _) (binGt _ _ _ _ _) (congrArg Value.bool (by first | rfl | assumption | (simp; omega) | (simp [*]; done)))),
        (by
          intro Lq aq wq hd hj Kq hK
          rw [if_pos (wanted_none rfl)]
          have f59 := hj.val 6 59 rfl rfl (by simp) rfl (hd ⟨6, .data⟩ (by simp) rfl)
          exact opMove hK rfl (ev f59) rfl),
        (by
          intro Lq aq wq hd hj Kq hK
          have fg := hj.val 7 60 rfl rfl (by simp) rfl (hd ⟨7, .guard⟩ (by simp) rfl)
          rw [wanted_some (c := true) rfl rfl rfl fg, if_pos (by rfl)]
          have f10 := hj.base 10 rfl rfl
          exact opMove hK rfl (ev f10) rfl),
        (by
          intro Lq aq wq hd hj Kq hK
          have fg := hj.val 7 60 rfl rfl (by simp) rfl (hd ⟨7, .guard⟩ (by simp) rfl)
          rw [wanted_some (c := true) rfl rfl rfl fg, if_pos (by rfl)]
          have f61 := hj.val 8 61 rfl rfl (by simp) rfl (hd ⟨8, .data⟩ (by simp) rfl)
          exact opCall hK Try.func82 (by kernel_rfl) rfl (args := #[.slice (some ⟨b, 0, none⟩) 64 c]) (by simp [ev f61]) ((used_any wq (Zx w4 Z) _ D1.files (HRF.out.ext0 ((Ext.refl None_ w5).drew.trans0 hj.ext)) h64 HSM.out).mono fun e w' ⟨h1, h2⟩ => ⟨_, h1, rfl, h2⟩)),
        (by
          intro Lq aq wq hd hj Kq hK
          have fg := hj.val 7 60 rfl rfl (by simp) rfl (hd ⟨7, .guard⟩ (by simp) rfl)
          rw [wanted_some (c := true) rfl rfl rfl fg, if_pos (by rfl)]
          have f10 := hj.base 10 rfl rfl
          exact opMove hK rfl (ev f10) rfl),
        (by
          intro Lq aq wq hd hj Kq hK
          have fg := hj.val 7 60 rfl rfl (by simp) rfl (hd ⟨7, .guard⟩ (by simp) rfl)
          rw [wanted_some (c := true) rfl rfl rfl fg, if_pos (by rfl)]
          have f1 := hj.base 1 rfl rfl
          exact opMove hK rfl (ev f1) rfl),
        (by
          intro Lq aq wq hd hj Kq hK
          have fg := hj.val 7 60 rfl rfl (by simp) rfl (hd ⟨7, .guard⟩ (by simp) rfl)
          rw [wanted_some (c := true) rfl rfl rfl fg, if_pos (by rfl)]
          have f63 := hj.val 10 63 rfl rfl (by simp) rfl (hd ⟨10, .data⟩ (by simp) rfl)
          have f64 := hj.val 11 64 rfl rfl (by simp) rfl (hd ⟨11, .data⟩ (by simp) rfl)
          exact opIndexB hK rfl (j := n) (ev f63) (ev f64) Try.underlying59 infoSl (by omega) (by omega) (by simp) rfl),
        (by
          intro Lq aq wq hd hj Kq hK
          have fg := hj.val 7 60 rfl rfl (by simp) rfl (hd ⟨7, .guard⟩ (by simp) rfl)
          rw [wanted_some (c := true) rfl rfl rfl fg, if_pos (by rfl)]
          have f65 := hj.val 12 65 rfl rfl (by simp) rfl (hd ⟨12, .data⟩ (by simp) rfl)
          exact opLoad hK rfl (ev f65) Try.underlying22 rfl (Ext.cell ((Ext.refl None_ w5).drew.trans0 hj.ext) h3 (fun a => a)) rfl),
        (by
          intro Lq aq wq hd hj Kq hK
          have fg := hj.val 7 60 rfl rfl (by simp) rfl (hd ⟨7, .guard⟩ (by simp) rfl)
          rw [wanted_some (c := true) rfl rfl rfl fg, if_pos (by rfl)]
          have f66 := hj.val 13 66 rfl rfl (by simp) rfl (hd ⟨13, .data⟩ (by simp) rfl)
          exact opLen hK rfl (ev f66) (by kernel_rfl) rfl),
        (by
          intro Lq aq wq hd hj Kq hK
          have fg := hj.val 7 60 rfl rfl (by simp) rfl (hd ⟨7, .guard⟩ (by simp) rfl)
          rw [wanted_some (c := true) rfl rfl rfl fg, if_pos (by rfl)]
          have f62 := hj.val 9 62 rfl rfl (by simp) rfl (hd ⟨9, .data⟩ (by simp) rfl)
          have f67 := hj.val 14 67 rfl rfl (by simp) rfl (hd ⟨14, .data⟩ (by simp) rfl)
          exact opBin hK rfl (ev f62) (ev f67) (guardInt _ _ _ _ _ _ _ _ _) (binSub _ _ _ _ (IntWalk.i64_in _ (by omega))) rfl),
        (by
          intro Lq aq wq hd hj Kq hK
          have fg := hj.val 7 60 rfl rfl (by simp) rfl (hd ⟨7, .guard⟩ (by simp) rfl)
          rw [wanted_some (c := true) rfl rfl rfl fg, if_pos (by rfl)]
          have f11 := hj.base 11 rfl rfl
          exact opMove hK rfl (ev f11) rfl),
        (by
          intro Lq aq wq hd hj Kq hK
          have fg := hj.val 7 60 rfl rfl (by simp) rfl (hd ⟨7, .guard⟩ (by simp) rfl)
          rw [wanted_some (c := true) rfl rfl rfl fg, if_pos (by rfl)]
          have f68 := hj.val 15 68 rfl rfl (by simp) rfl (hd ⟨15, .data⟩ (by simp) rfl)
          have f69 := hj.val 16 69 rfl rfl (by simp) rfl (hd ⟨16, .data⟩ (by simp) rfl)
          exact opBin hK rfl (ev f68) (ev f69) (guardInt _ _ _ _ _ _ _ _ _) (binAdd _ _ _ _ (IntWalk.i64_in _ (by omega))) rfl),
        (by
          intro Lq aq wq hd hj Kq hK
          have fg := hj.val 7 60 rfl rfl (by simp) rfl (hd ⟨7, .guard⟩ (by simp) rfl)
          rw [wanted_some (c := true) rfl rfl rfl fg, if_pos (by rfl)]
          have f0 := hj.base 0 rfl rfl
          exact opMove hK rfl (ev f0) rfl),
        (by
          intro Lq aq wq hd hj Kq hK
          have fg := hj.val 7 60 rfl rfl (by simp) rfl (hd ⟨7, .guard⟩ (by simp) rfl)
          rw [wanted_some (c := true) rfl rfl rfl fg, if_pos (by rfl)]
          have f71 := hj.val 18 71 rfl rfl (by simp) rfl (hd ⟨18, .data⟩ (by simp) rfl)
          exact opNil hK rfl (ev f71) rfl),
        (by
          intro Lq aq wq hd hj Kq hK
          have fg := hj.val 7 60 rfl rfl (by simp) rfl (hd ⟨7, .guard⟩ (by simp) rfl)
          rw [wanted_some (c := true) rfl rfl rfl fg, if_pos (by rfl)]
          have f72 := hj.val 19 72 rfl rfl (by simp) rfl (hd ⟨19, .data⟩ (by simp) rfl)
          exact opFieldA hK rfl (k := 2) (ev f72) (fun W => by kernel_rfl) rfl),
        (by
          intro Lq aq wq hd hj Kq hK
          have fg := hj.val 7 60 rfl rfl (by simp) rfl (hd ⟨7, .guard⟩ (by simp) rfl)
          rw [wanted_some (c := true) rfl rfl rfl fg, if_pos (by rfl)]
          have f73 := hj.val 20 73 rfl rfl (by simp) rfl (hd ⟨20, .data⟩ (by simp) rfl)
          exact opLoad hK rfl (ev f73) Try.underlying3 rfl (Ext.cell ((Ext.refl None_ w5).drew.trans0 hj.ext) q2 (fun a => a)) rfl),
        (by
          intro Lq aq wq hd hj Kq hK
          have fg := hj.val 7 60 rfl rfl (by simp) rfl (hd ⟨7, .guard⟩ (by simp) rfl)
          rw [wanted_some (c := true) rfl rfl rfl fg, if_pos (by rfl)]
          have f70 := hj.val 17 70 rfl rfl (by simp) rfl (hd ⟨17, .data⟩ (by simp) rfl)
          have f74 := hj.val 21 74 rfl rfl (by simp) rfl (hd ⟨21, .data⟩ (by simp) rfl)
          exact opBin hK rfl (ev f70) (ev f74) (guardInt _ _ _ _ _ _ _ _ _) (binGt _ _ _ _ _) (congrArg Value.bool (by first | rfl | assumption | (simp; omega) | (simp [*]; done)))),
        (by
          intro Lq aq wq hd hj Kq hK
          rw [if_pos (wanted_none rfl)]
          have f60 := hj.val 7 60 rfl rfl (by simp) rfl (hd ⟨7, .data⟩ (by simp) rfl)
          have f75 := hj.val 22 75 rfl rfl (by simp) rfl (hd ⟨22, .data⟩ (by simp) rfl)
          exact opPick hK rfl (b := true) (ev f60) ((if_pos rfl).trans (ev f75)) rfl),
        trivial⟩ ?fin
      case fin =>
        intro vs w6 hx hg
        have v23 : vs 23 = _ := hg 23 (by decide)
        have X6 := Lib.hid ((Ext.refl None_ w5).drew.trans0 hx)
        clear hx hg
        simp only [putAll, v23, Nat.reduceAdd, Nat.zero_add]
        simp only [Act.put, List.setIfInBounds_toArray, List.set_cons_succ, List.set_cons_zero]
        have HXR : Hid (Ext None_ w1 w6) := Lib.hid (HX5.out.trans0 X6.out)
        have HB9 : Hid (Blk w6 w3.heap.size #[.int .i64 n, .int .i64 zn, .int .i64 (-1), .slice Ap p.length cp] 109) := Lib.hid (HB9.out.ext X6.out (fun a => a))
        have m1 := HXR.out.cell k1 (fun a => a)
        have HSP : Hid (Sl w6 (Zx w1 Z) (.slice Ap p.length cp) p) := Lib.hid (HSP.out.ext X6.out (fun _ _ a => a))
        clear k1 h3 q2 X6 HX5
        go_wp2_with fail
        refine wp_region_chain [6, 9, 12] [(0, 2), (0, 0), (0, 0), (0, 0), (0, 0), (0, 0), (0, 1), (0, 1), (0, 1), (1, 2), (0, 2), (0, 2), (2, 3)] (SP9 w6 g) [⟨fun W => Ext None_ w6.drew W, fun _ _ h hx => h.trans0 hx⟩, ⟨fun W => Ext None_ w6.drew W, fun _ _ h hx => h.trans0 hx⟩, ⟨fun W => Ext None_ w6.drew W, fun _ _ h hx => h.trans0 hx⟩, ⟨fun W => RLeft w W Z g { D1 with files := D1.files.set n (wrF l zn p), wait := D1.wait ++ [⟨false, n, zn, p⟩] }, fun _ _ h hx => h.trans0 hx⟩] [cv _, cE0 w6 g, cv _, cv _, cv _, cv (.slice A0 wl c2), cOwC w6 g wl (rchs D1.wait pv), cv (.agg #[.int .i64 n, .int .i64 zn, .int .i64 (-1), .slice Ap p.length cp]), cRowR w6 g (rch ⟨false, n, zn, p⟩ (.slice Ap p.length cp)), cRWn w6 g (Zx w1 Z) (D1.wait ++ [⟨false, n, zn, p⟩]), cv _, cv _, cAny] (by kernel_rfl) rfl rfl rfl rfl rfl rfl rfl rfl ((Ext.refl None_ w6.drew : Ext None_ w6.drew w6.drew)) ⟨
          (by
            intro Lq aq wq kq hd hj hlo hhi Kq hK
            rw [if_pos (wanted_none rfl)]
            have f0 := hj.base 0 rfl rfl
            exact opMove hK rfl (ev f0) rfl),
          (by
            intro Lq aq wq kq hd hj hlo hhi Kq hK
            rw [if_pos (wanted_none rfl)]
            have hj0 : Ext None_ w6.drew wq := by
              obtain rfl : kq = 0 := Nat.le_antisymm hhi (Nat.zero_le _)
              exact hj.inv
            have hxq : Ext None_ w6 wq := (Ext.refl None_ w6).drew.trans0 hj0
            exact opSlice hK rfl (ps := #[]) (by simp) rch_slice0 ⟨Nat.zero_le _, fun _ => ⟨wq.heap.size, rfl, (Own.made (e := 109) (size := 4) wq #[] 0 (by simp [maxLen]) rfl).mono (fun k _ e => by have := Ext.size hxq; omega)⟩⟩),
          (by
            intro Lq aq wq kq hd hj hlo hhi Kq hK
            rw [if_pos (wanted_none rfl)]
            have f0 := hj.base 0 rfl rfl
            exact opMove hK rfl (ev f0) rfl),
          (by
            intro Lq aq wq kq hd hj hlo hhi Kq hK
            rw [if_pos (wanted_none rfl)]
            have f79 := hj.val 2 79 rfl rfl (by simp) rfl (hd ⟨2, .data⟩ (by simp) rfl)
            exact opNil hK rfl (ev f79) rfl),
          (by
            intro Lq aq wq kq hd hj hlo hhi Kq hK
            rw [if_pos (wanted_none rfl)]
            have f80 := hj.val 3 80 rfl rfl (by simp) rfl (hd ⟨3, .data⟩ (by simp) rfl)
            exact opFieldA hK rfl (k := 1) (ev f80) (fun W => by kernel_rfl) rfl),
          (by
            intro Lq aq wq kq hd hj hlo hhi Kq hK
            rw [if_pos (wanted_none rfl)]
            have f81 := hj.val 4 81 rfl rfl (by simp) rfl (hd ⟨4, .data⟩ (by simp) rfl)
            have hj0 : Ext None_ w6.drew wq := by
              obtain rfl : kq = 0 := Nat.le_antisymm hhi (Nat.zero_le _)
              exact hj.inv
            have hxq : Ext None_ w6 wq := (Ext.refl None_ w6).drew.trans0 hj0
            exact opLoad hK rfl (ev f81) Try.underlying89 rfl (Ext.cell hxq m1 (fun a => a)) rfl),
          (by
            intro Lq aq wq hd hj Kq hK
            rw [if_pos (wanted_none rfl)]
            obtain ⟨u78, f78, g78⟩ := hj.at_ 1 78 rfl rfl (by simp) (hd ⟨1, .data⟩ (by simp) rfl)
            have f82 := hj.val 5 82 rfl rfl (by simp) rfl (hd ⟨5, .data⟩ (by simp) rfl)
            have hxq : Ext None_ w6 wq := (Ext.refl None_ w6).drew.trans0 (hj.inv : Ext None_ w6.drew wq)
            obtain ⟨b78, rfl, hown⟩ := g78.2 (Nat.le_refl _)
            exact wpApp0 _ _ 89 rfl 109 _ 4 48 Try.underlying89 infoRch rfl (by decide) (by decide) _ b78 (ev f78) hown A0 wl c2 (rchs D1.wait pv) (ev f82) HRL.out (HROW.out.ext0 ((HXR.out.trans0 hxq))) (rchs_one HPL.out HSL.out) (by omega) (fun v' w' h1 h2 => hK v' w' ⟨Nat.le_refl _, fun _ => h1.mono (fun k _ e => e.elim id (fun e => Nat.le_trans (Ext.size hxq) e))⟩ (Ext.trans0 hj.inv h2) (h2.mono (fun _ _ a => a.elim)))),
          (by
            intro Lq aq wq kq hd hj hlo hhi Kq hK
            rw [if_pos (wanted_none rfl)]
            have f9 := hj.base 9 rfl rfl
            have hj0 : Ext None_ w6.drew wq := by
              rcases (show kq = 0 ∨ kq = 1 from by have : kq ≤ 1 := hhi; omega) with rfl | rfl <;> exact hj.inv
            have hxq : Ext None_ w6 wq := (Ext.refl None_ w6).drew.trans0 hj0
            exact opLoadMid hK rfl w3.heap.size 0 (ev f9) (Array.toList #[.int .i64 n, .int .i64 zn, .int .i64 (-1), .slice Ap p.length cp]) (blk_rng (HB9.out.ext hxq (fun a => a))) Try.underlying109 rfl (by kernel_rfl) rfl),
          (by
            intro Lq aq wq kq hd hj hlo hhi Kq hK
            rw [if_pos (wanted_none rfl)]
            have f84 := hj.val 7 84 rfl rfl (by simp) rfl (hd ⟨7, .data⟩ (by simp) rfl)
            have hj0 : Ext None_ w6.drew wq := by
              rcases (show kq = 0 ∨ kq = 1 from by have : kq ≤ 1 := hhi; omega) with rfl | rfl <;> exact hj.inv
            have hxq : Ext None_ w6 wq := (Ext.refl None_ w6).drew.trans0 hj0
            exact opSlice hK rfl (ps := #[(0, .agg #[.int .i64 n, .int .i64 zn, .int .i64 (-1), .slice Ap p.length cp])]) (by simp [ev f84]) (fun W => rch_slice n zn (-1) Ap p.length cp W) ⟨Nat.zero_le _, fun _ => ⟨_, rfl, (Blk.new wq _ _).row⟩⟩),
          (by
            intro Lq aq wq hd hj Kq hK
            rw [if_pos (wanted_none rfl)]
            obtain ⟨u83, f83, g83⟩ := hj.at_ 6 83 rfl rfl (by simp) (hd ⟨6, .data⟩ (by simp) rfl)
            obtain ⟨u85, f85, g85⟩ := hj.at_ 8 85 rfl rfl (by simp) (hd ⟨8, .data⟩ (by simp) rfl)
            have hxq : Ext None_ w6 wq := (Ext.refl None_ w6).drew.trans0 (hj.inv : Ext None_ w6.drew wq)
            have hown := g83.2 (Nat.le_refl _)
            obtain ⟨b85, rfl, hr85⟩ := g85.2 (Nat.le_refl _)
            exact wpApp _ _ 89 rfl 109 _ 4 48 Try.underlying89 infoRch rfl (by decide) (by decide) _ u83 wl (rchs D1.wait pv) (ev f83) hown (some ⟨b85, 0, none⟩) 1 1 (rch ⟨false, n, zn, p⟩ (.slice Ap p.length cp)) (ev f85) rfl hr85 (rch_one HSP.out) (by omega) (fun v' w' h1 h2 => by
              have hxw : Ext None_ w6 w' := hxq.trans h2 (fun k hk e => absurd (hown.blk k e) (Nat.not_le.2 hk))
              exact hK v' w' ⟨Nat.le_refl _, fun _ => rw_app (HXR.out.trans0 hxw) HPL.out HSL.out ((HSP.out.ext hxw (fun _ _ a => a)).mono (fun _ _ h => h)) (by rw [← HWL.out]; exact h1) (fun k hk => by
                have h61 := HXR.out.size
                have h6q := Ext.size hxq
                rcases hk with h | h
                · have := hown.blk k h; omega
                · omega)⟩ ((hj.inv : Ext None_ w6.drew wq).trans h2 (fun k hk e => absurd (hown.blk k e) (Nat.not_le.2 hk))) (h2.mono (fun k _ e => .inl ⟨rfl, hown.blk k e⟩)))),
          (by
            intro Lq aq wq kq hd hj hlo hhi Kq hK
            rw [if_pos (wanted_none rfl)]
            have f77 := hj.val 0 77 rfl rfl (by simp) rfl (hd ⟨0, .data⟩ (by simp) rfl)
            exact opNil hK rfl (ev f77) rfl),
          (by
            intro Lq aq wq kq hd hj hlo hhi Kq hK
            rw [if_pos (wanted_none rfl)]
            have f87 := hj.val 10 87 rfl rfl (by simp) rfl (hd ⟨10, .data⟩ (by simp) rfl)
            exact opFieldA hK rfl (k := 1) (ev f87) (fun W => by kernel_rfl) rfl),
          (by
            intro Lq aq wq hd hj Kq hK
            rw [if_pos (wanted_none rfl)]
            have f88 := hj.val 11 88 rfl rfl (by simp) rfl (hd ⟨11, .data⟩ (by simp) rfl)
            obtain ⟨u86, f86, g86⟩ := hj.at_ 9 86 rfl rfl (by simp) (hd ⟨9, .data⟩ (by simp) rfl)
            have hxq : Ext None_ w6 wq := (Ext.refl None_ w6).drew.trans0 (hj.inv : Ext None_ w6.drew wq)
            have hu := g86.2 (Nat.le_refl _)
            obtain ⟨A9, c9, pv9, rfl, hr9⟩ := id hu
            obtain ⟨s1, s2, s3⟩ := rd_wait HX.out HD.out (Ext.refl _ _) (HXR.out.trans0 hxq) hu HF.out HOK.out (by have := HWL.out; omega)
            exact opStoreC hK rfl (ev f88) (ev f86) rfl rfl (by kernel_rfl) s2 s3 trivial s1 ((Ext.refl _ _).setCell (.inl (.inr ⟨rfl, rfl⟩)) _)),
          trivial⟩ ?fin
        case fin =>
          intro vs9 w9 hI hg
          have HI : Hid (RLeft w w9 Z g { D1 with files := D1.files.set n (wrF l zn p), wait := D1.wait ++ [⟨false, n, zn, p⟩] }) := Lib.hid hI
          clear hI hg
          simp only [putAll, Nat.reduceAdd, Nat.zero_add]
          simp only [Act.put, List.setIfInBounds_toArray, List.set_cons_succ, List.set_cons_zero]
          go_wp2_with fail
          go_ret
          exact ⟨rfl, HI.out⟩
set_option maxRecDepth 100000 in
set_option maxHeartbeats 16000000 in
theorem rwrite_fit (w : World) (Z : Nat → Prop) (g : Nat) (D1 : DS) (n zn : Nat) (A2 : Option Addr) (cp0 : Nat) (p l : List Int) (hn64 : n < 64) (hzn : zn ≤ 1048576) (HT : Hid (∀ W, Calls Try.prog 80 #[.int .i64 n] W fun e w' => e = .returned (.bool true) ∧ W = w')) (HC : Hid (Calls Try.prog 79 #[.pointer (some ⟨g, 0, none⟩)] w fun e w' => e = .returned (.bool true) ∧ RD w' Z g D1 ∧ Ext (fun k => k = g) w w')) (hlw : D1.wait.length + 1 ≤ 1000) (HLE : Hid (l = fileAt D1.files n)) (HP : Hid (∀ W, Ext (fun k => k = g) w W → Row W A2 (B8 p))) (HBY : Hid (Byt p)) (hpl : p.length ≤ 140737488352000) (HOK : Hid (DS.ok { D1 with files := D1.files.set n (wrF l zn p), wait := D1.wait ++ [⟨false, n, zn, p⟩] })) (HF : Hid (D1.files.set n (wrF l zn p) = stepF D1.files ⟨false, n, zn, p⟩)) (hc1 : zn + p.length ≤ l.length) : Calls Try.prog 56 #[.pointer (some ⟨g, 0, none⟩), .int .i64 n, .int .i64 zn, .slice A2 p.length cp0] w fun e w' => e = .returned (.int .i64 0) ∧ RLeft w w' Z g { D1 with files := D1.files.set n (wrF l zn p), wait := D1.wait ++ [⟨false, n, zn, p⟩] } := by
  go_enter Try.func56, Try.ntmps56
  go_wp2_with fail
  refine HC.out.mono ?_
  rintro e w1 ⟨rfl, hd, hx⟩
  have HD := Lib.hid hd
  have HX := Lib.hid hx
  clear hd hx HC
  go_wp2_with fail
  refine (HT.out w1).mono ?_
  rintro e wf ⟨rfl, rfl⟩
  obtain ⟨b0, cx, A0, c2, ⟨_, k1, k2, _, _⟩, cf, _, hrw⟩ := HD.out.at_.cells
  obtain ⟨A0', c0', pv, e0, w1c, w2c, hpl, hrow, hAb, hsl⟩ := hrw
  obtain ⟨rfl, rfl⟩ : A0 = A0' ∧ c2 = c0' := by
    have := e0
    simp at this
    exact this
  have HROW := Lib.hid hrow
  have HSL := Lib.hid hsl
  have HPL := Lib.hid hpl
  obtain ⟨wl, hwl⟩ : ∃ x, x = D1.wait.length := ⟨_, rfl⟩
  have HWL := Lib.hid hwl
  rw [← hwl] at k1 w1c hlw
  have HRL : Hid ((rchs D1.wait pv).length = wl * 4) := Lib.hid (by rw [rchs_length _ _ hpl, hwl])
  have HOW : Hid (OwnB (w1.alloc (.cells #[] 5)) (fun k => w1.heap.size ≤ k) (.slice (some ⟨w1.heap.size, 0, none⟩) 0 0) []) := Lib.hid ((Own.made (e := 5) (size := 1) w1 #[] 0 (by simp [maxLen]) rfl).mono (fun k _ e => by omega))
  have HP1 := Lib.hid (HP.out w1 HX.out)
  have hq0 := HD.out.ok.q0
  have hq1 := HD.out.ok.q1
  have hhb := heldN_bound' HD.out.ok
  have HSM := Lib.hid HD.out.ok.fl
  have hll : l.length ≤ 1048576 := by rw [HLE.out]; exact HD.out.ok.fl _ (fileAt_mem (by rw [HD.out.ok.f64]; exact hn64))
  clear e0 hrow hAb hsl hpl hwl HP
  go_wp2_with (at_builtin; refine wpList_app0 rfl (.tmp 28) (.tmp 29) 22 rfl 5 (.int .u8 0) 1 1 Try.underlying22 infoU8 rfl (by decide) (by decide) _ w1.heap.size rfl HOW.out A2 p.length cp0 (B8 p) rfl (by rw [B8_length, Nat.mul_one]) (HP1.out.ext0 (x0 w1 _)) (B8_one _) (by omega) ?_; intro v3 w3 ho3 hx3; obtain ⟨Ap, cp, rfl, hpc, _, _⟩ := Own.slice ho3; have HO3 : Hid (OwnB w3 (fun k => w1.heap.size ≤ k) (.slice Ap p.length cp) p) := Lib.hid (ho3.mono (fun k _ h => by simp at h; omega)); have HX3 : Hid (Ext None_ w1 w3) := Lib.hid ((x0 w1 _).trans0 hx3); clear ho3 hx3)
  have HX4 : Hid (Ext None_ w1 (w3.alloc (.cells #[.int .i64 n, .int .i64 zn, .int .i64 (-1), .slice Ap p.length cp] 109))) := Lib.hid (HX3.out.alloc _)
  obtain ⟨w4, hw4⟩ : ∃ x, x = w3.alloc (.cells #[.int .i64 n, .int .i64 zn, .int .i64 (-1), .slice Ap p.length cp] 109) := ⟨_, rfl⟩
  have HB4 : Hid (Blk w4 w3.heap.size #[.int .i64 n, .int .i64 zn, .int .i64 (-1), .slice Ap p.length cp] 109) := Lib.hid (hw4 ▸ Blk.new w3 _ _)
  rw [← hw4] at HX4
  rw [← hw4]
  refine (rnow_any w4 Z g D1 (HD.out.ext0 HX4.out)).mono ?_
  rintro e w5 ⟨v', rfl, hr, hx5⟩
  obtain ⟨b, c, A, cc, rfl, h1, h2, h3, h4, _⟩ := hr.file (i := n) (by rw [HD.out.ok.f64]; exact hn64)
  have h64 := HD.out.ok.f64
  rw [← HLE.out] at h3 h4
  have HX5 := Lib.hid (HX4.out.trans0 hx5)
  have HB9 := Lib.hid (HB4.out.ext hx5 (fun a => a))
  have HRF := Lib.hid hr
  have HSP : Hid (Sl w5 (Zx w1 Z) (.slice Ap p.length cp) p) := Lib.hid (Sl.own (OwnB.ext0 HO3.out ((by rw [hw4]; exact x0 w3 _ : Ext None_ w3 w4).trans0 hx5)) HBY.out (fun k _ h => .inr h))
  have q2 := HX5.out.cell k2 (fun a => a)
  have HW34 := Lib.hid hw4
  clear hr hx5 hw4 HB4 HO3 HX3 HX4 HOW HP1 k2
  rw [h64] at h1 HRF ⊢
  obtain ⟨L1, hL1⟩ : ∃ x : Nat, x = max l.length zn := ⟨_, rfl⟩
  obtain ⟨L, hL⟩ : ∃ x : Nat, x = max l.length (zn + p.length) := ⟨_, rfl⟩
  have HL1 := Lib.hid hL1
  have HLL := Lib.hid hL
  clear hL1 hL
  go_upto_if 41 with fail
  go_cut [11] from 42 (fun v11 wx => v11 = .int .i64 L1 ∧ w5 = wx)
  case first =>
    by_cases hz : l.length < zn
    · have hL2 : Hid (L1 = zn) := Lib.hid (by have := HL1.out; omega)
      go_wp2_with fail
      all_goals go_meet
      all_goals exact ⟨by rw [hL2.out], rfl⟩
    · have hL2 : Hid (L1 = l.length) := Lib.hid (by have := HL1.out; omega)
      go_wp2_with fail
      all_goals go_meet
      all_goals exact ⟨by rw [hL2.out], rfl⟩
  case rest =>
    obtain ⟨rfl, rfl⟩ := hcut
    go_upto_if 48 with fail
    go_cut [11] from 49 (fun v11 wx => v11 = .int .i64 L ∧ w5 = wx)
    case first =>
      by_cases hz : L1 < zn + p.length
      · have hL2 : Hid ((L : Int) = zn + p.length) := Lib.hid (by have := HLL.out; have := HL1.out; omega)
        go_wp2_with fail
        all_goals go_meet
        all_goals exact ⟨by rw [hL2.out], rfl⟩
      · have hL2 : Hid (L = L1) := Lib.hid (by have := HLL.out; have := HL1.out; omega)
        go_wp2_with fail
        all_goals go_meet
        all_goals exact ⟨by rw [hL2.out], rfl⟩
    case rest =>
      obtain ⟨rfl, rfl⟩ := hcut
      have hLb : L ≤ 140737490000000 := by have := HLL.out; omega
      clear HL1
      go_wp2_with fail
      have hL3 : L = l.length := by have := HLL.out; omega
      refine wp_region_mem [sv _, sv _, sv _, sv (.pointer (some ⟨b, n, none⟩)), sv (.slice A l.length cc), sv _, sv (.bool false), sv (.bool false), sAny, sAny, sAny, sAny, sAny, sAny, sAny, sAny, sAny, sAny, sAny, sAny, sAny, sAny, sAny, sv (.bool false)] (by kernel_rfl) rfl rfl rfl rfl ⟨
        (by
          intro Lq aq wq hd hj Kq hK
          rw [if_pos (wanted_none rfl)]
          have f11 := hj.base 11 rfl rfl
          exact opMove hK rfl (ev f11) rfl),
        (by
          intro Lq aq wq hd hj Kq hK
          rw [if_pos (wanted_none rfl)]
          have f10 := hj.base 10 rfl rfl
          exact opMove hK rfl (ev f10) rfl),
        (by
          intro Lq aq wq hd hj Kq hK
          rw [if_pos (wanted_none rfl)]
          have f1 := hj.base 1 rfl rfl
          exact opMove hK rfl (ev f1) rfl),
        (by
          intro Lq aq wq hd hj Kq hK
          rw [if_pos (wanted_none rfl)]
          have f54 := hj.val 1 54 rfl rfl (by simp) rfl (hd ⟨1, .data⟩ (by simp) rfl)
          have f55 := hj.val 2 55 rfl rfl (by simp) rfl (hd ⟨2, .data⟩ (by simp) rfl)
          exact opIndexB hK rfl (j := n) (ev f54) (ev f55) Try.underlying59 infoSl (by omega) (by omega) (by simp) rfl),
        (by
          intro Lq aq wq hd hj Kq hK
          rw [if_pos (wanted_none rfl)]
          have f56 := hj.val 3 56 rfl rfl (by simp) rfl (hd ⟨3, .data⟩ (by simp) rfl)
          exact opLoad hK rfl (ev f56) Try.underlying22 rfl (Ext.cell ((Ext.refl None_ w5).drew.trans0 hj.ext) h3 (fun a => a)) rfl),
        (by
          intro Lq aq wq hd hj Kq hK
          rw [if_pos (wanted_none rfl)]
          have f57 := hj.val 4 57 rfl rfl (by simp) rfl (hd ⟨4, .data⟩ (by simp) rfl)
          exact opLen hK rfl (ev f57) (by kernel_rfl) rfl),
        (by
          intro Lq aq wq hd hj Kq hK
          rw [if_pos (wanted_none rfl)]
          have f53 := hj.val 0 53 rfl rfl (by simp) rfl (hd ⟨0, .data⟩ (by simp) rfl)
          have f58 := hj.val 5 58 rfl rfl (by simp) rfl (hd ⟨5, .data⟩ (by simp) rfl)
          exact opBin hK rfl (ev f53) (ev f58) (guardInt _ _ _ _ _ _ _ _ _) (binGt _ _ _ _ _) (congrArg Value.bool (by first | rfl | assumption | (simp; omega) | (simp [*]; done)))),
        (by
          intro Lq aq wq hd hj Kq hK
          rw [if_pos (wanted_none rfl)]
          have f59 := hj.val 6 59 rfl rfl (by simp) rfl (hd ⟨6, .data⟩ (by simp) rfl)
          exact opMove hK rfl (ev f59) rfl),
        (by
          intro Lq aq wq hd hj Kq hK
          have fg := hj.val 7 60 rfl rfl (by simp) rfl (hd ⟨7, .guard⟩ (by simp) rfl)
          rw [wanted_some (c := false) rfl rfl rfl fg, if_neg (by decide)]
          exact trivial),
        (by
          intro Lq aq wq hd hj Kq hK
          have fg := hj.val 7 60 rfl rfl (by simp) rfl (hd ⟨7, .guard⟩ (by simp) rfl)
          rw [wanted_some (c := false) rfl rfl rfl fg, if_neg (by decide)]
          exact trivial),
        (by
          intro Lq aq wq hd hj Kq hK
          have fg := hj.val 7 60 rfl rfl (by simp) rfl (hd ⟨7, .guard⟩ (by simp) rfl)
          rw [wanted_some (c := false) rfl rfl rfl fg, if_neg (by decide)]
          exact trivial),
        (by
          intro Lq aq wq hd hj Kq hK
          have fg := hj.val 7 60 rfl rfl (by simp) rfl (hd ⟨7, .guard⟩ (by simp) rfl)
          rw [wanted_some (c := false) rfl rfl rfl fg, if_neg (by decide)]
          exact trivial),
        (by
          intro Lq aq wq hd hj Kq hK
          have fg := hj.val 7 60 rfl rfl (by simp) rfl (hd ⟨7, .guard⟩ (by simp) rfl)
          rw [wanted_some (c := false) rfl rfl rfl fg, if_neg (by decide)]
          exact trivial),
        (by
          intro Lq aq wq hd hj Kq hK
          have fg := hj.val 7 60 rfl rfl (by simp) rfl (hd ⟨7, .guard⟩ (by simp) rfl)
          rw [wanted_some (c := false) rfl rfl rfl fg, if_neg (by decide)]
          exact trivial),
        (by
          intro Lq aq wq hd hj Kq hK
          have fg := hj.val 7 60 rfl rfl (by simp) rfl (hd ⟨7, .guard⟩ (by simp) rfl)
          rw [wanted_some (c := false) rfl rfl rfl fg, if_neg (by decide)]
          exact trivial),
        (by
          intro Lq aq wq hd hj Kq hK
          have fg := hj.val 7 60 rfl rfl (by simp) rfl (hd ⟨7, .guard⟩ (by simp) rfl)
          rw [wanted_some (c := false) rfl rfl rfl fg, if_neg (by decide)]
          exact trivial),
        (by
          intro Lq aq wq hd hj Kq hK
          have fg := hj.val 7 60 rfl rfl (by simp) rfl (hd ⟨7, .guard⟩ (by simp) rfl)
          rw [wanted_some (c := false) rfl rfl rfl fg, if_neg (by decide)]
          exact trivial),
        (by
          intro Lq aq wq hd hj Kq hK
          have fg := hj.val 7 60 rfl rfl (by simp) rfl (hd ⟨7, .guard⟩ (by simp) rfl)
          rw [wanted_some (c := false) rfl rfl rfl fg, if_neg (by decide)]
          exact trivial),
        (by
          intro Lq aq wq hd hj Kq hK
          have fg := hj.val 7 60 rfl rfl (by simp) rfl (hd ⟨7, .guard⟩ (by simp) rfl)
          rw [wanted_some (c := false) rfl rfl rfl fg, if_neg (by decide)]
          exact trivial),
        (by
          intro Lq aq wq hd hj Kq hK
          have fg := hj.val 7 60 rfl rfl (by simp) rfl (hd ⟨7, .guard⟩ (by simp) rfl)
          rw [wanted_some (c := false) rfl rfl rfl fg, if_neg (by decide)]
          exact trivial),
        (by
          intro Lq aq wq hd hj Kq hK
          have fg := hj.val 7 60 rfl rfl (by simp) rfl (hd ⟨7, .guard⟩ (by simp) rfl)
          rw [wanted_some (c := false) rfl rfl rfl fg, if_neg (by decide)]
          exact trivial),
        (by
          intro Lq aq wq hd hj Kq hK
          have fg := hj.val 7 60 rfl rfl (by simp) rfl (hd ⟨7, .guard⟩ (by simp) rfl)
          rw [wanted_some (c := false) rfl rfl rfl fg, if_neg (by decide)]
          exact trivial),
        (by
          intro Lq aq wq hd hj Kq hK
          have fg := hj.val 7 60 rfl rfl (by simp) rfl (hd ⟨7, .guard⟩ (by simp) rfl)
          rw [wanted_some (c := false) rfl rfl rfl fg, if_neg (by decide)]
          exact trivial),
        (by
          intro Lq aq wq hd hj Kq hK
          rw [if_pos (wanted_none rfl)]
          have f60 := hj.val 7 60 rfl rfl (by simp) rfl (hd ⟨7, .data⟩ (by simp) rfl)
          exact opPick hK rfl (b := false) (ev f60) ((if_neg (by decide)).trans (rfl)) rfl),
        trivial⟩ ?fin
      case fin =>
        intro vs w6 hx hg
        have v23 : vs 23 = _ := hg 23 (by decide)
        have X6 := Lib.hid ((Ext.refl None_ w5).drew.trans0 hx)
        clear hx hg
        simp only [putAll, v23, Nat.reduceAdd, Nat.zero_add]
        simp only [Act.put, List.setIfInBounds_toArray, List.set_cons_succ, List.set_cons_zero]
        have HXR : Hid (Ext None_ w1 w6) := Lib.hid (HX5.out.trans0 X6.out)
        have HB9 : Hid (Blk w6 w3.heap.size #[.int .i64 n, .int .i64 zn, .int .i64 (-1), .slice Ap p.length cp] 109) := Lib.hid (HB9.out.ext X6.out (fun a => a))
        have m1 := HXR.out.cell k1 (fun a => a)
        have HSP : Hid (Sl w6 (Zx w1 Z) (.slice Ap p.length cp) p) := Lib.hid (HSP.out.ext X6.out (fun _ _ a => a))
        clear k1 h3 q2 X6 HX5
        go_wp2_with fail
        refine wp_region_chain [6, 9, 12] [(0, 2), (0, 0), (0, 0), (0, 0), (0, 0), (0, 0), (0, 1), (0, 1), (0, 1), (1, 2), (0, 2), (0, 2), (2, 3)] (SP9 w6 g) [⟨fun W => Ext None_ w6.drew W, fun _ _ h hx => h.trans0 hx⟩, ⟨fun W => Ext None_ w6.drew W, fun _ _ h hx => h.trans0 hx⟩, ⟨fun W => Ext None_ w6.drew W, fun _ _ h hx => h.trans0 hx⟩, ⟨fun W => RLeft w W Z g { D1 with files := D1.files.set n (wrF l zn p), wait := D1.wait ++ [⟨false, n, zn, p⟩] }, fun _ _ h hx => h.trans0 hx⟩] [cv _, cE0 w6 g, cv _, cv _, cv _, cv (.slice A0 wl c2), cOwC w6 g wl (rchs D1.wait pv), cv (.agg #[.int .i64 n, .int .i64 zn, .int .i64 (-1), .slice Ap p.length cp]), cRowR w6 g (rch ⟨false, n, zn, p⟩ (.slice Ap p.length cp)), cRWn w6 g (Zx w1 Z) (D1.wait ++ [⟨false, n, zn, p⟩]), cv _, cv _, cAny] (by kernel_rfl) rfl rfl rfl rfl rfl rfl rfl rfl ((Ext.refl None_ w6.drew : Ext None_ w6.drew w6.drew)) ⟨
          (by
            intro Lq aq wq kq hd hj hlo hhi Kq hK
            rw [if_pos (wanted_none rfl)]
            have f0 := hj.base 0 rfl rfl
            exact opMove hK rfl (ev f0) rfl),
          (by
            intro Lq aq wq kq hd hj hlo hhi Kq hK
            rw [if_pos (wanted_none rfl)]
            have hj0 : Ext None_ w6.drew wq := by
              obtain rfl : kq = 0 := Nat.le_antisymm hhi (Nat.zero_le _)
              exact hj.inv
            have hxq : Ext None_ w6 wq := (Ext.refl None_ w6).drew.trans0 hj0
            exact opSlice hK rfl (ps := #[]) (by simp) rch_slice0 ⟨Nat.zero_le _, fun _ => ⟨wq.heap.size, rfl, (Own.made (e := 109) (size := 4) wq #[] 0 (by simp [maxLen]) rfl).mono (fun k _ e => by have := Ext.size hxq; omega)⟩⟩),
          (by
            intro Lq aq wq kq hd hj hlo hhi Kq hK
            rw [if_pos (wanted_none rfl)]
            have f0 := hj.base 0 rfl rfl
            exact opMove hK rfl (ev f0) rfl),
          (by
            intro Lq aq wq kq hd hj hlo hhi Kq hK
            rw [if_pos (wanted_none rfl)]
            have f79 := hj.val 2 79 rfl rfl (by simp) rfl (hd ⟨2, .data⟩ (by simp) rfl)
            exact opNil hK rfl (ev f79) rfl),
          (by
            intro Lq aq wq kq hd hj hlo hhi Kq hK
            rw [if_pos (wanted_none rfl)]
            have f80 := hj.val 3 80 rfl rfl (by simp) rfl (hd ⟨3, .data⟩ (by simp) rfl)
            exact opFieldA hK rfl (k := 1) (ev f80) (fun W => by kernel_rfl) rfl),
          (by
            intro Lq aq wq kq hd hj hlo hhi Kq hK
            rw [if_pos (wanted_none rfl)]
            have f81 := hj.val 4 81 rfl rfl (by simp) rfl (hd ⟨4, .data⟩ (by simp) rfl)
            have hj0 : Ext None_ w6.drew wq := by
              obtain rfl : kq = 0 := Nat.le_antisymm hhi (Nat.zero_le _)
              exact hj.inv
            have hxq : Ext None_ w6 wq := (Ext.refl None_ w6).drew.trans0 hj0
            exact opLoad hK rfl (ev f81) Try.underlying89 rfl (Ext.cell hxq m1 (fun a => a)) rfl),
          (by
            intro Lq aq wq hd hj Kq hK
            rw [if_pos (wanted_none rfl)]
            obtain ⟨u78, f78, g78⟩ := hj.at_ 1 78 rfl rfl (by simp) (hd ⟨1, .data⟩ (by simp) rfl)
            have f82 := hj.val 5 82 rfl rfl (by simp) rfl (hd ⟨5, .data⟩ (by simp) rfl)
            have hxq : Ext None_ w6 wq := (Ext.refl None_ w6).drew.trans0 (hj.inv : Ext None_ w6.drew wq)
            obtain ⟨b78, rfl, hown⟩ := g78.2 (Nat.le_refl _)
            exact wpApp0 _ _ 89 rfl 109 _ 4 48 Try.underlying89 infoRch rfl (by decide) (by decide) _ b78 (ev f78) hown A0 wl c2 (rchs D1.wait pv) (ev f82) HRL.out (HROW.out.ext0 ((HXR.out.trans0 hxq))) (rchs_one HPL.out HSL.out) (by omega) (fun v' w' h1 h2 => hK v' w' ⟨Nat.le_refl _, fun _ => h1.mono (fun k _ e => e.elim id (fun e => Nat.le_trans (Ext.size hxq) e))⟩ (Ext.trans0 hj.inv h2) (h2.mono (fun _ _ a => a.elim)))),
          (by
            intro Lq aq wq kq hd hj hlo hhi Kq hK
            rw [if_pos (wanted_none rfl)]
            have f9 := hj.base 9 rfl rfl
            have hj0 : Ext None_ w6.drew wq := by
              rcases (show kq = 0 ∨ kq = 1 from by have : kq ≤ 1 := hhi; omega) with rfl | rfl <;> exact hj.inv
            have hxq : Ext None_ w6 wq := (Ext.refl None_ w6).drew.trans0 hj0
            exact opLoadMid hK rfl w3.heap.size 0 (ev f9) (Array.toList #[.int .i64 n, .int .i64 zn, .int .i64 (-1), .slice Ap p.length cp]) (blk_rng (HB9.out.ext hxq (fun a => a))) Try.underlying109 rfl (by kernel_rfl) rfl),
          (by
            intro Lq aq wq kq hd hj hlo hhi Kq hK
            rw [if_pos (wanted_none rfl)]
            have f84 := hj.val 7 84 rfl rfl (by simp) rfl (hd ⟨7, .data⟩ (by simp) rfl)
            have hj0 : Ext None_ w6.drew wq := by
              rcases (show kq = 0 ∨ kq = 1 from by have : kq ≤ 1 := hhi; omega) with rfl | rfl <;> exact hj.inv
            have hxq : Ext None_ w6 wq := (Ext.refl None_ w6).drew.trans0 hj0
            exact opSlice hK rfl (ps := #[(0, .agg #[.int .i64 n, .int .i64 zn, .int .i64 (-1), .slice Ap p.length cp])]) (by simp [ev f84]) (fun W => rch_slice n zn (-1) Ap p.length cp W) ⟨Nat.zero_le _, fun _ => ⟨_, rfl, (Blk.new wq _ _).row⟩⟩),
          (by
            intro Lq aq wq hd hj Kq hK
            rw [if_pos (wanted_none rfl)]
            obtain ⟨u83, f83, g83⟩ := hj.at_ 6 83 rfl rfl (by simp) (hd ⟨6, .data⟩ (by simp) rfl)
            obtain ⟨u85, f85, g85⟩ := hj.at_ 8 85 rfl rfl (by simp) (hd ⟨8, .data⟩ (by simp) rfl)
            have hxq : Ext None_ w6 wq := (Ext.refl None_ w6).drew.trans0 (hj.inv : Ext None_ w6.drew wq)
            have hown := g83.2 (Nat.le_refl _)
            obtain ⟨b85, rfl, hr85⟩ := g85.2 (Nat.le_refl _)
            exact wpApp _ _ 89 rfl 109 _ 4 48 Try.underlying89 infoRch rfl (by decide) (by decide) _ u83 wl (rchs D1.wait pv) (ev f83) hown (some ⟨b85, 0, none⟩) 1 1 (rch ⟨false, n, zn, p⟩ (.slice Ap p.length cp)) (ev f85) rfl hr85 (rch_one HSP.out) (by omega) (fun v' w' h1 h2 => by
              have hxw : Ext None_ w6 w' := hxq.trans h2 (fun k hk e => absurd (hown.blk k e) (Nat.not_le.2 hk))
              exact hK v' w' ⟨Nat.le_refl _, fun _ => rw_app (HXR.out.trans0 hxw) HPL.out HSL.out ((HSP.out.ext hxw (fun _ _ a => a)).mono (fun _ _ h => h)) (by rw [← HWL.out]; exact h1) (fun k hk => by
                have h61 := HXR.out.size
                have h6q := Ext.size hxq
                rcases hk with h | h
                · have := hown.blk k h; omega
                · omega)⟩ ((hj.inv : Ext None_ w6.drew wq).trans h2 (fun k hk e => absurd (hown.blk k e) (Nat.not_le.2 hk))) (h2.mono (fun k _ e => .inl ⟨rfl, hown.blk k e⟩)))),
          (by
            intro Lq aq wq kq hd hj hlo hhi Kq hK
            rw [if_pos (wanted_none rfl)]
            have f77 := hj.val 0 77 rfl rfl (by simp) rfl (hd ⟨0, .data⟩ (by simp) rfl)
            exact opNil hK rfl (ev f77) rfl),
          (by
            intro Lq aq wq kq hd hj hlo hhi Kq hK
            rw [if_pos (wanted_none rfl)]
            have f87 := hj.val 10 87 rfl rfl (by simp) rfl (hd ⟨10, .data⟩ (by simp) rfl)
            exact opFieldA hK rfl (k := 1) (ev f87) (fun W => by kernel_rfl) rfl),
          (by
            intro Lq aq wq hd hj Kq hK
            rw [if_pos (wanted_none rfl)]
            have f88 := hj.val 11 88 rfl rfl (by simp) rfl (hd ⟨11, .data⟩ (by simp) rfl)
            obtain ⟨u86, f86, g86⟩ := hj.at_ 9 86 rfl rfl (by simp) (hd ⟨9, .data⟩ (by simp) rfl)
            have hxq : Ext None_ w6 wq := (Ext.refl None_ w6).drew.trans0 (hj.inv : Ext None_ w6.drew wq)
            have hu := g86.2 (Nat.le_refl _)
            obtain ⟨A9, c9, pv9, rfl, hr9⟩ := id hu
            obtain ⟨s1, s2, s3⟩ := rd_wait HX.out HD.out (Ext.refl _ _) (HXR.out.trans0 hxq) hu HF.out HOK.out (by have := HWL.out; omega)
            exact opStoreC hK rfl (ev f88) (ev f86) rfl rfl (by kernel_rfl) s2 s3 trivial s1 ((Ext.refl _ _).setCell (.inl (.inr ⟨rfl, rfl⟩)) _)),
          trivial⟩ ?fin
        case fin =>
          intro vs9 w9 hI hg
          have HI : Hid (RLeft w w9 Z g { D1 with files := D1.files.set n (wrF l zn p), wait := D1.wait ++ [⟨false, n, zn, p⟩] }) := Lib.hid hI
          clear hI hg
          simp only [putAll, Nat.reduceAdd, Nat.zero_add]
          simp only [Act.put, List.setIfInBounds_toArray, List.set_cons_succ, List.set_cons_zero]
          go_wp2_with fail
          go_ret
          exact ⟨rfl, HI.out⟩
set_option maxRecDepth 100000 in
set_option maxHeartbeats 8000000 in
theorem rwrite_any (w : World) (Z : Nat → Prop) (g : Nat) (D : DS) (f z : Int) (A2 : Option Addr) (cp0 : Nat) (p : List Int) (h : RD w Z g D) (hok : (writeD D f z p).2.ok) (hl : D.wait.length + 1 ≤ 1000) (hp : Row w A2 (B8 p)) (hby : Byt p) (hpg : ∀ ad, A2 = some ad → 0 < p.length → ad.block ≠ g) (hpl : p.length ≤ 140737488352000) : Calls Try.prog 56 #[.pointer (some ⟨g, 0, none⟩), .int .i64 f, .int .i64 z, .slice A2 p.length cp0] w fun e w' => e = .returned (.int .i64 (writeD D f z p).1) ∧ RLeft w w' Z g (writeD D f z p).2 := by
  have HC := Lib.hid (rcount w Z g D h)
  have hlw : (countD D).2.wait.length + 1 ≤ 1000 := by rw [(countD_safe D).2.1]; exact hl
  have HP : Hid (∀ W, Ext (fun k => k = g) w W → Row W A2 (B8 p)) := Lib.hid (fun W hx => rowP hp hx hpg)
  have HBY := Lib.hid hby
  clear h hl hp hby hpg
  unfold writeD at hok ⊢
  obtain ⟨⟨b, D1⟩, hD⟩ : ∃ z, z = countD D := ⟨_, rfl⟩
  rw [← hD] at HC hok hlw ⊢
  clear hD
  simp only at HC hok hlw ⊢
  cases b with
  | false =>
    rw [if_neg (by decide)]
    clear hok
    go_enter Try.func56, Try.ntmps56
    go_wp2_with fail
    refine HC.out.mono ?_
    rintro e w1 ⟨rfl, hd, hx⟩
    have HD := Lib.hid hd
    have HX := Lib.hid hx
    clear hd hx HC
    go_wp2_with fail
    go_ret
    exact ⟨rfl, Z, HD.out, HX.out, fun _ h => .inl h⟩
  | true =>
    rw [if_pos rfl] at hok ⊢
    obtain ⟨bf, hbf⟩ : ∃ b, b = inF f := ⟨_, rfl⟩
    have HT : Hid (∀ W, Calls Try.prog 80 #[.int .i64 f] W fun e w' => e = .returned (.bool bf) ∧ W = w') := Lib.hid (fun W => hbf ▸ rfile_any f W)
    cases bf with
    | false =>
      rw [if_neg (by unfold atOk; rw [← hbf]; simp)]
      clear hok hbf
      go_enter Try.func56, Try.ntmps56
      go_wp2_with fail
      refine HC.out.mono ?_
      rintro e w1 ⟨rfl, hd, hx⟩
      have HD := Lib.hid hd
      have HX := Lib.hid hx
      clear hd hx HC
      go_wp2_with fail
      refine (HT.out w1).mono ?_
      rintro e wf ⟨rfl, rfl⟩
      go_wp2_with fail
      go_ret
      exact ⟨rfl, Z, HD.out, HX.out, fun _ h => .inl h⟩
    | true =>
      obtain ⟨hf0, hf1⟩ := inF_true hbf.symm
      obtain ⟨n, rfl⟩ : ∃ n : Nat, f = n := ⟨f.toNat, by omega⟩
      have hn64 : n < 64 := by omega
      by_cases hz : z < 0
      · rw [if_neg (by unfold atOk; simp; omega)]
        clear hok hbf
        go_enter Try.func56, Try.ntmps56
        go_wp2_with fail
        refine HC.out.mono ?_
        rintro e w1 ⟨rfl, hd, hx⟩
        have HD := Lib.hid hd
        have HX := Lib.hid hx
        clear hd hx HC
        go_wp2_with fail
        refine (HT.out w1).mono ?_
        rintro e wf ⟨rfl, rfl⟩
        go_wp2_with fail
        go_ret
        exact ⟨rfl, Z, HD.out, HX.out, fun _ h => .inl h⟩
      · by_cases hz2 : 1048576 < z
        · rw [if_neg (by unfold atOk; simp; omega)]
          clear hok hbf
          go_enter Try.func56, Try.ntmps56
          go_wp2_with fail
          refine HC.out.mono ?_
          rintro e w1 ⟨rfl, hd, hx⟩
          have HD := Lib.hid hd
          have HX := Lib.hid hx
          clear hd hx HC
          go_wp2_with fail
          refine (HT.out w1).mono ?_
          rintro e wf ⟨rfl, rfl⟩
          go_wp2_with fail
          go_ret
          exact ⟨rfl, Z, HD.out, HX.out, fun _ h => .inl h⟩
        · obtain ⟨zn, rfl⟩ : ∃ m : Nat, z = m := ⟨z.toNat, by omega⟩
          have ha : atOk n zn = true := by unfold atOk; rw [← hbf]; simp; omega
          rw [if_pos ha] at hok ⊢
          simp only [Int.toNat_natCast] at hok ⊢
          obtain ⟨l, hle⟩ : ∃ l, l = fileAt D1.files n := ⟨_, rfl⟩
          unfold fullD at hok ⊢
          rw [← hle] at hok ⊢
          by_cases hc1 : (l.length : Int) < zn + p.length
          · by_cases hfu : D1.quota < heldN D1.files - l.length + zn + p.length
            · rw [if_pos (by simp [hc1, hfu])]
              exact rwrite_full w Z g D1 n zn A2 cp0 p l hn64 (by omega) HT HC hlw (Lib.hid hle) HP HBY hpl hc1 hfu
            · rw [if_neg (by simp [hfu])] at hok ⊢
              exact rwrite_grow w Z g D1 n zn A2 cp0 p l hn64 (by omega) HT HC hlw (Lib.hid hle) HP HBY hpl (Lib.hid hok) (Lib.hid (by rw [stepF_wr, ← hle])) hc1 (by omega)
          · rw [if_neg (by simp [hc1])] at hok ⊢
            exact rwrite_fit w Z g D1 n zn A2 cp0 p l hn64 (by omega) HT HC hlw (Lib.hid hle) HP HBY hpl (Lib.hid hok) (Lib.hid (by rw [stepF_wr, ← hle])) (by omega)
end Go.Proofs.Ytakcdmmniaipeaa
