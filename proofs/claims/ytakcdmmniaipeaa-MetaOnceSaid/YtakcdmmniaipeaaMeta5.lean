/- MetaRuns, walked. Written by gen_meta5.py. -/
import Derived.Test.YtakcdmmniaipeaaMeta4
set_option linter.unusedVariables false
set_option linter.unusedSimpArgs false
namespace Go.Proofs.Ytakcdmmniaipeaa
open Go.RowKit B
set_option maxRecDepth 100000
deriving instance DecidableEq for Rec
def s0 : DS := emptyD 65536
def s1 : DS := (openM s0).2
def s2 : DS := (setM s1 ⟨1, ⟨0, 0, -1⟩⟩ 1 2).2.1
def s3 : DS := (setM s2 ⟨0, ⟨1, 1, 2⟩⟩ 1 2).2.1
def s4 : DS := (setM s3 ⟨1, ⟨2, 1, 2⟩⟩ 2 (-1)).2.1
def s5 : DS := (setM s4 ⟨0, ⟨3, 2, -1⟩⟩ 2 0).2.1
def s6 : DS := crashD s5 0 (-1)
def s7 : DS := (openM s6).2
theorem me0 : (openM s0).1 = 0 := by decide +kernel
theorem me6 : (openM s6).1 = 0 := by decide +kernel
theorem bf0 : (bestN s0 2).file = 1 := by decide +kernel
theorem br0 : (bestN s0 2).r = ⟨0, 0, -1⟩ := by decide +kernel
theorem bf6 : (bestN s6 2).file = 1 := by decide +kernel
theorem br6 : (bestN s6 2).r = ⟨4, 2, 0⟩ := by decide +kernel
theorem wl1 : s1.wait.length ≤ 1000000 := by decide +kernel
theorem wl0 : s0.wait.length ≤ 1000000 := by decide +kernel
theorem wl2 : s2.wait.length ≤ 1000000 := by decide +kernel
theorem wl3 : s3.wait.length ≤ 1000000 := by decide +kernel
theorem wl4 : s4.wait.length ≤ 1000000 := by decide +kernel
theorem wl5 : s5.wait.length ≤ 1099511627776 := by decide +kernel
theorem wl6 : s6.wait.length ≤ 1000000 := by decide +kernel
theorem wl7 : s7.wait.length ≤ 1000000 := by decide +kernel
theorem ya : (setM s1 ⟨1, ⟨0, 0, -1⟩⟩ 1 2).1 = 0 := by decide +kernel
theorem za : (setM s1 ⟨1, ⟨0, 0, -1⟩⟩ 1 2).2.1 = s2 := rfl
theorem ua : (setM s1 ⟨1, ⟨0, 0, -1⟩⟩ 1 2).2.2.file = 0 := by decide +kernel
theorem va : (setM s1 ⟨1, ⟨0, 0, -1⟩⟩ 1 2).2.2.r = ⟨1, 1, 2⟩ := by decide +kernel
theorem st_a (w0 : World) (gm g : Nat) (w : World) (h : Lw w0 (GM gm) [] g s1 w) (hm : MetaB w gm g 1 ⟨0, 0, -1⟩) (hgw : w0.heap.size ≤ gm) : Calls Try.prog 20 #[.pointer (some ⟨gm, 0, none⟩), .int .i64 1, .int .i64 2] w fun e w' => e = .returned (.int .i64 0) ∧ Lw w0 (GM gm) [] g s2 w' ∧ MetaB w' gm g 0 ⟨1, 1, 2⟩ := by
  have := mSet_any w0 gm g s1 1 ⟨0, 0, -1⟩ 1 2 w h hm hgw (by decide) (by decide) (by unfold I64; decide) (by unfold I64; decide) wl1
  unfold SetP at this
  rwa [ya, za, ua, va] at this
theorem yb : (setM s2 ⟨0, ⟨1, 1, 2⟩⟩ 1 0).1 = 1 := by decide +kernel
theorem zb : (setM s2 ⟨0, ⟨1, 1, 2⟩⟩ 1 0).2.1 = s2 := by unfold setM; rw [if_neg (by decide)]
theorem ub : (setM s2 ⟨0, ⟨1, 1, 2⟩⟩ 1 0).2.2.file = 0 := by decide +kernel
theorem vb : (setM s2 ⟨0, ⟨1, 1, 2⟩⟩ 1 0).2.2.r = ⟨1, 1, 2⟩ := by decide +kernel
theorem st_b (w0 : World) (gm g : Nat) (w : World) (h : Lw w0 (GM gm) [] g s2 w) (hm : MetaB w gm g 0 ⟨1, 1, 2⟩) (hgw : w0.heap.size ≤ gm) : Calls Try.prog 20 #[.pointer (some ⟨gm, 0, none⟩), .int .i64 1, .int .i64 0] w fun e w' => e = .returned (.int .i64 1) ∧ Lw w0 (GM gm) [] g s2 w' ∧ MetaB w' gm g 0 ⟨1, 1, 2⟩ := by
  have := mSet_any w0 gm g s2 0 ⟨1, 1, 2⟩ 1 0 w h hm hgw (by decide) (by decide) (by unfold I64; decide) (by unfold I64; decide) wl2
  unfold SetP at this
  rwa [yb, zb, ub, vb] at this
theorem yc : (setM s2 ⟨0, ⟨1, 1, 2⟩⟩ 0 (-1)).1 = 1 := by decide +kernel
theorem zc : (setM s2 ⟨0, ⟨1, 1, 2⟩⟩ 0 (-1)).2.1 = s2 := by unfold setM; rw [if_neg (by decide)]
theorem uc : (setM s2 ⟨0, ⟨1, 1, 2⟩⟩ 0 (-1)).2.2.file = 0 := by decide +kernel
theorem vc : (setM s2 ⟨0, ⟨1, 1, 2⟩⟩ 0 (-1)).2.2.r = ⟨1, 1, 2⟩ := by decide +kernel
theorem st_c (w0 : World) (gm g : Nat) (w : World) (h : Lw w0 (GM gm) [] g s2 w) (hm : MetaB w gm g 0 ⟨1, 1, 2⟩) (hgw : w0.heap.size ≤ gm) : Calls Try.prog 20 #[.pointer (some ⟨gm, 0, none⟩), .int .i64 0, .int .i64 (-1)] w fun e w' => e = .returned (.int .i64 1) ∧ Lw w0 (GM gm) [] g s2 w' ∧ MetaB w' gm g 0 ⟨1, 1, 2⟩ := by
  have := mSet_any w0 gm g s2 0 ⟨1, 1, 2⟩ 0 (-1) w h hm hgw (by decide) (by decide) (by unfold I64; decide) (by unfold I64; decide) wl2
  unfold SetP at this
  rwa [yc, zc, uc, vc] at this
theorem yd : (setM s2 ⟨0, ⟨1, 1, 2⟩⟩ 1 2).1 = 0 := by decide +kernel
theorem zd : (setM s2 ⟨0, ⟨1, 1, 2⟩⟩ 1 2).2.1 = s3 := rfl
theorem ud : (setM s2 ⟨0, ⟨1, 1, 2⟩⟩ 1 2).2.2.file = 1 := by decide +kernel
theorem vd : (setM s2 ⟨0, ⟨1, 1, 2⟩⟩ 1 2).2.2.r = ⟨2, 1, 2⟩ := by decide +kernel
theorem st_d (w0 : World) (gm g : Nat) (w : World) (h : Lw w0 (GM gm) [] g s2 w) (hm : MetaB w gm g 0 ⟨1, 1, 2⟩) (hgw : w0.heap.size ≤ gm) : Calls Try.prog 20 #[.pointer (some ⟨gm, 0, none⟩), .int .i64 1, .int .i64 2] w fun e w' => e = .returned (.int .i64 0) ∧ Lw w0 (GM gm) [] g s3 w' ∧ MetaB w' gm g 1 ⟨2, 1, 2⟩ := by
  have := mSet_any w0 gm g s2 0 ⟨1, 1, 2⟩ 1 2 w h hm hgw (by decide) (by decide) (by unfold I64; decide) (by unfold I64; decide) wl2
  unfold SetP at this
  rwa [yd, zd, ud, vd] at this
theorem ye : (setM s3 ⟨1, ⟨2, 1, 2⟩⟩ 2 (-1)).1 = 0 := by decide +kernel
theorem ze : (setM s3 ⟨1, ⟨2, 1, 2⟩⟩ 2 (-1)).2.1 = s4 := rfl
theorem ue : (setM s3 ⟨1, ⟨2, 1, 2⟩⟩ 2 (-1)).2.2.file = 0 := by decide +kernel
theorem ve : (setM s3 ⟨1, ⟨2, 1, 2⟩⟩ 2 (-1)).2.2.r = ⟨3, 2, -1⟩ := by decide +kernel
theorem st_e (w0 : World) (gm g : Nat) (w : World) (h : Lw w0 (GM gm) [] g s3 w) (hm : MetaB w gm g 1 ⟨2, 1, 2⟩) (hgw : w0.heap.size ≤ gm) : Calls Try.prog 20 #[.pointer (some ⟨gm, 0, none⟩), .int .i64 2, .int .i64 (-1)] w fun e w' => e = .returned (.int .i64 0) ∧ Lw w0 (GM gm) [] g s4 w' ∧ MetaB w' gm g 0 ⟨3, 2, -1⟩ := by
  have := mSet_any w0 gm g s3 1 ⟨2, 1, 2⟩ 2 (-1) w h hm hgw (by decide) (by decide) (by unfold I64; decide) (by unfold I64; decide) wl3
  unfold SetP at this
  rwa [ye, ze, ue, ve] at this
theorem yf : (setM s4 ⟨0, ⟨3, 2, -1⟩⟩ 2 0).1 = 0 := by decide +kernel
theorem zf : (setM s4 ⟨0, ⟨3, 2, -1⟩⟩ 2 0).2.1 = s5 := rfl
theorem uf : (setM s4 ⟨0, ⟨3, 2, -1⟩⟩ 2 0).2.2.file = 1 := by decide +kernel
theorem vf : (setM s4 ⟨0, ⟨3, 2, -1⟩⟩ 2 0).2.2.r = ⟨4, 2, 0⟩ := by decide +kernel
theorem st_f (w0 : World) (gm g : Nat) (w : World) (h : Lw w0 (GM gm) [] g s4 w) (hm : MetaB w gm g 0 ⟨3, 2, -1⟩) (hgw : w0.heap.size ≤ gm) : Calls Try.prog 20 #[.pointer (some ⟨gm, 0, none⟩), .int .i64 2, .int .i64 0] w fun e w' => e = .returned (.int .i64 0) ∧ Lw w0 (GM gm) [] g s5 w' ∧ MetaB w' gm g 1 ⟨4, 2, 0⟩ := by
  have := mSet_any w0 gm g s4 0 ⟨3, 2, -1⟩ 2 0 w h hm hgw (by decide) (by decide) (by unfold I64; decide) (by unfold I64; decide) wl4
  unfold SetP at this
  rwa [yf, zf, uf, vf] at this
theorem yg : (setM s7 ⟨1, ⟨4, 2, 0⟩⟩ 2 (-1)).1 = 1 := by decide +kernel
theorem zg : (setM s7 ⟨1, ⟨4, 2, 0⟩⟩ 2 (-1)).2.1 = s7 := by unfold setM; rw [if_neg (by decide)]
theorem ug : (setM s7 ⟨1, ⟨4, 2, 0⟩⟩ 2 (-1)).2.2.file = 1 := by decide +kernel
theorem vg : (setM s7 ⟨1, ⟨4, 2, 0⟩⟩ 2 (-1)).2.2.r = ⟨4, 2, 0⟩ := by decide +kernel
theorem st_g (w0 : World) (gm g : Nat) (w : World) (h : Lw w0 (GM gm) [] g s7 w) (hm : MetaB w gm g 1 ⟨4, 2, 0⟩) (hgw : w0.heap.size ≤ gm) : Calls Try.prog 20 #[.pointer (some ⟨gm, 0, none⟩), .int .i64 2, .int .i64 (-1)] w fun e w' => e = .returned (.int .i64 1) ∧ Lw w0 (GM gm) [] g s7 w' ∧ MetaB w' gm g 1 ⟨4, 2, 0⟩ := by
  have := mSet_any w0 gm g s7 1 ⟨4, 2, 0⟩ 2 (-1) w h hm hgw (by decide) (by decide) (by unfold I64; decide) (by unfold I64; decide) wl7
  unfold SetP at this
  rwa [yg, zg, ug, vg] at this
theorem yh : (setM s7 ⟨1, ⟨4, 2, 0⟩⟩ 3 7).1 = 1 := by decide +kernel
theorem zh : (setM s7 ⟨1, ⟨4, 2, 0⟩⟩ 3 7).2.1 = s7 := by unfold setM; rw [if_neg (by decide)]
theorem uh : (setM s7 ⟨1, ⟨4, 2, 0⟩⟩ 3 7).2.2.file = 1 := by decide +kernel
theorem vh : (setM s7 ⟨1, ⟨4, 2, 0⟩⟩ 3 7).2.2.r = ⟨4, 2, 0⟩ := by decide +kernel
theorem st_h (w0 : World) (gm g : Nat) (w : World) (h : Lw w0 (GM gm) [] g s7 w) (hm : MetaB w gm g 1 ⟨4, 2, 0⟩) (hgw : w0.heap.size ≤ gm) : Calls Try.prog 20 #[.pointer (some ⟨gm, 0, none⟩), .int .i64 3, .int .i64 7] w fun e w' => e = .returned (.int .i64 1) ∧ Lw w0 (GM gm) [] g s7 w' ∧ MetaB w' gm g 1 ⟨4, 2, 0⟩ := by
  have := mSet_any w0 gm g s7 1 ⟨4, 2, 0⟩ 3 7 w h hm hgw (by decide) (by decide) (by unfold I64; decide) (by unfold I64; decide) wl7
  unfold SetP at this
  rwa [yh, zh, uh, vh] at this
theorem op_A (w0 : World) (g : Nat) (w : World) (h : Lw w0 [] [] g s0 w) : Calls Try.prog 17 #[.pointer (some ⟨g, 0, none⟩)] w fun e w' => ∃ gm, e = .returned (.tuple #[.pointer (some ⟨gm, 0, none⟩), .int .i64 0]) ∧ MetaB w' gm g 1 ⟨0, 0, -1⟩ ∧ Lw w0 (GM gm) [] g s1 w' ∧ w0.heap.size ≤ gm := by
  refine (open_anyM w0 [] [] g s0 w h wl0).mono fun e w' h => ?_
  unfold OpenP at h
  rw [if_pos me0, bf0, br0] at h
  exact h
theorem op_B (w0 : World) (g : Nat) (w : World) (h : Lw w0 [] [] g s6 w) : Calls Try.prog 17 #[.pointer (some ⟨g, 0, none⟩)] w fun e w' => ∃ gm, e = .returned (.tuple #[.pointer (some ⟨gm, 0, none⟩), .int .i64 0]) ∧ MetaB w' gm g 1 ⟨4, 2, 0⟩ ∧ Lw w0 (GM gm) [] g s7 w' ∧ w0.heap.size ≤ gm := by
  refine (open_anyM w0 [] [] g s6 w h wl6).mono fun e w' h => ?_
  unfold OpenP at h
  rw [if_pos me6, bf6, br6] at h
  exact h
set_option maxHeartbeats 8000000 in
theorem open_nil (w : World) : Calls Try.prog 17 #[.pointer none] w fun e w' => e = .returned (.tuple #[.pointer none, .int .i64 1]) ∧ Ext None_ w w' := by
  go_enter Try.func17, Try.ntmps17
  go_wp2_with fail
  go_ret2
  exact ⟨rfl, Ext.refl None_ _⟩
set_option maxHeartbeats 16000000 in
theorem MetaRuns_any (w : World) : Calls Try.prog 11 #[] w fun e w' => e = .returned (.bool true) ∧ Ext None_ w w' := by
  have HNEW := Lib.hid (lw_new 65536 w (by omega) (by omega))
  go_enter Try.func11, Try.ntmps11
  go_wp2_with (first
    | (go_at_call 14; refine HNEW.out.mono ?_; rintro e wA ⟨g, rfl, h1⟩; have h1 : Lw w [] [] g s0 wA := h1; have HA := Lib.hid h1; clear h1 HNEW)
    | (go_at_call 17; refine (op_A w g _ HA.out).mono ?_; rintro e wB ⟨gm, rfl, h1, h2, h3⟩; have HM0 := Lib.hid h1; have HL0 := Lib.hid h2; have HG := Lib.hid h3; clear h1 h2 h3 HA)
    | (go_at_call 18; refine (mTerm_any gm g _ _ _ HM0.out).mono ?_; rintro e wC ⟨rfl, hx⟩; have HL1 := Lib.hid (HL0.out.ext0 hx); have HM1 := Lib.hid (meta_keep (w0 := w) HM0.out (ofQ hx)); clear hx HL0 HM0)
    | (go_at_call 19; refine (mVote_any gm g _ _ _ HM1.out).mono ?_; rintro e wD ⟨rfl, hx⟩; have HL2 := Lib.hid (HL1.out.ext0 hx); have HM2 := Lib.hid (meta_keep (w0 := w) HM1.out (ofQ hx)); clear hx HL1 HM1)
    | (go_at_call 20; refine (st_a w gm g _ HL2.out HM2.out HG.out).mono ?_; rintro e wS2 ⟨rfl, h1, h2⟩; have HL3 := Lib.hid h1; have HM3 := Lib.hid h2; clear h1 h2 HL2 HM2)
    | (go_at_call 20; refine (st_b w gm g _ HL3.out HM3.out HG.out).mono ?_; rintro e wS3 ⟨rfl, h1, h2⟩; have HL4 := Lib.hid h1; have HM4 := Lib.hid h2; clear h1 h2 HL3 HM3)
    | (go_at_call 20; refine (st_c w gm g _ HL4.out HM4.out HG.out).mono ?_; rintro e wS4 ⟨rfl, h1, h2⟩; have HL5 := Lib.hid h1; have HM5 := Lib.hid h2; clear h1 h2 HL4 HM4)
    | (go_at_call 20; refine (st_d w gm g _ HL5.out HM5.out HG.out).mono ?_; rintro e wS5 ⟨rfl, h1, h2⟩; have HL6 := Lib.hid h1; have HM6 := Lib.hid h2; clear h1 h2 HL5 HM5)
    | (go_at_call 20; refine (st_e w gm g _ HL6.out HM6.out HG.out).mono ?_; rintro e wS6 ⟨rfl, h1, h2⟩; have HL7 := Lib.hid h1; have HM7 := Lib.hid h2; clear h1 h2 HL6 HM6)
    | (go_at_call 20; refine (st_f w gm g _ HL7.out HM7.out HG.out).mono ?_; rintro e wS7 ⟨rfl, h1, h2⟩; have HL8 := Lib.hid h1; have HM8 := Lib.hid h2; clear h1 h2 HL7 HM7)
    | (go_at_call 22; refine (lw_crash HL8.out 0 (-1) (by unfold I64; decide) wl5).mono ?_; rintro e wE ⟨g2, rfl, _, h1⟩; have HB : Hid (Lw w [] [] g2 s6 wE) := Lib.hid (Lw.sub h1 (fun _ h => by simp at h) (fun _ h => by simp at h)); clear h1 HL8 HM8 HG)
    | (go_at_call 17; refine (op_B w g2 _ HB.out).mono ?_; rintro e wF ⟨gx, rfl, h1, h2, h3⟩; have HN0 := Lib.hid h1; have HP0 := Lib.hid h2; have HG := Lib.hid h3; clear h1 h2 h3 HB)
    | (go_at_call 17; refine (open_nil _).mono ?_; rintro e wG ⟨rfl, hx⟩; have HP1 := Lib.hid (HP0.out.ext0 hx); have HN1 := Lib.hid (meta_keep (w0 := w) HN0.out (ofQ hx)); clear hx HP0 HN0)
    | (go_at_call 18; refine (mTerm_any gx g2 _ _ _ HN1.out).mono ?_; rintro e wH ⟨rfl, hx⟩; have HP2 := Lib.hid (HP1.out.ext0 hx); have HN2 := Lib.hid (meta_keep (w0 := w) HN1.out (ofQ hx)); clear hx HP1 HN1)
    | (go_at_call 19; refine (mVote_any gx g2 _ _ _ HN2.out).mono ?_; rintro e wI ⟨rfl, hx⟩; have HP3 := Lib.hid (HP2.out.ext0 hx); have HN3 := Lib.hid (meta_keep (w0 := w) HN2.out (ofQ hx)); clear hx HP2 HN2)
    | (go_at_call 20; refine (st_g w gx g2 _ HP3.out HN3.out HG.out).mono ?_; rintro e wJ ⟨rfl, h1, h2⟩; have HP4 := Lib.hid h1; have HN4 := Lib.hid h2; clear h1 h2 HP3 HN3)
    | (go_at_call 20; refine (st_h w gx g2 _ HP4.out HN4.out HG.out).mono ?_; rintro e wK ⟨rfl, h1, h2⟩; have HP5 := Lib.hid h1; clear h1 h2 HP4 HN4))
  go_ret
  exact ⟨rfl, HP5.out.x⟩
end Go.Proofs.Ytakcdmmniaipeaa
