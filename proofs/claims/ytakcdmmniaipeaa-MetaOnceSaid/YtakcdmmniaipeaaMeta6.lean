/- MetaOthers, walked. Written by gen_meta6.py. -/
import Derived.Test.YtakcdmmniaipeaaMeta5
import Derived.Test.YtakcdmmniaipeaaDisk17
set_option linter.unusedVariables false
set_option linter.unusedSimpArgs false
namespace Go.Proofs.Ytakcdmmniaipeaa
open Go.RowKit B
set_option maxRecDepth 100000
def Mt.ok (m : Mt) : Prop := (0 ≤ m.file ∧ m.file ≤ 1) ∧ (0 ≤ m.r.age ∧ m.r.age < 1125899906842624) ∧ 0 ≤ m.r.term ∧ m.r.term ≤ 1099511627776 ∧ -1 ≤ m.r.vote ∧ m.r.vote < 7
theorem pick_ok (D : DS) (m : Mt) (f : Int) (hf : 0 ≤ f ∧ f ≤ 1) (h : m.ok) : (pickM D m f).ok := by
  unfold pickM
  split
  · rename_i r hr
    have := recF_ok hr
    unfold Rec.ok at this
    split
    · unfold Mt.ok
      simp only
      omega
    · exact h
  · exact h
theorem best_ok (D : DS) : ∀ k : Nat, k ≤ 2 → (bestN D k).ok
  | 0, _ => by unfold bestN Mt.ok; simp only; omega
  | k + 1, h => by
    simp only [bestN]
    exact pick_ok D _ _ (by omega) (best_ok D k (by omega))
theorem open_wait (D : DS) : (openM D).2.wait.length ≤ D.wait.length + 2 := by
  have h1 := cN_wait D 1
  have h2 := cN_wait D 2
  have h3 := sync_wait (cN D 2)
  unfold openM
  split
  · simp only; omega
  · split
    · split <;> simp only <;> omega
    · split <;> simp only <;> omega
theorem set_ok (D : DS) (m : Mt) (t v : Int) (h : m.ok) : 0 ≤ (setM D m t v).2.2.r.term ∧ (setM D m t v).2.2.r.term ≤ 1099511627776 ∧ -1 ≤ (setM D m t v).2.2.r.vote ∧ (setM D m t v).2.2.r.vote < 7 := by
  obtain ⟨_, _, h0⟩ := h
  by_cases may : mayB m.r.term m.r.vote t v = true
  · have hr : 0 ≤ t ∧ t ≤ 1099511627776 ∧ -1 ≤ v ∧ v < 7 := by
      simp only [mayB, Bool.and_eq_true, decide_eq_true_eq] at may
      omega
    unfold setM
    rw [if_pos may]
    split
    · split
      · split
        · exact hr
        · exact h0
      · exact h0
    · exact h0
  · unfold setM
    rw [if_neg may]
    exact h0
section
variable {w : World}
set_option maxHeartbeats 16000000 in
theorem mo_loT (fi : Int) (hfi : I64 fi) (at_ : Int) (hat : I64 at_) (A : Option Addr) (c : Nat) (l : List Int) (hr : Row w A (B8 l)) (hc : l.length ≤ c) (hm : l.length ≤ 140737488351232) (hw : Byt l) (t : Int) (ht : I64 t) (v : Int) (hv : I64 v) (hbl : ∀ ad, A = some ad → 0 < l.length → ad.block < w.heap.size) (ha : at_ < 0) (D1 : DS) (hD1 : D1 = (writeD (emptyD 1048576) (within fi 0 3) 0 l).2) (hop : (openM D1).1 = 0) : Calls Try.prog 3 #[.int .i64 fi, .int .i64 at_, .slice A l.length c, .int .i64 t, .int .i64 v] w fun e w' => e = .returned (.bool true) ∧ Ext None_ w w' := by
  have hwl : D1.wait.length ≤ 1 := by have := write_wait (emptyD 1048576) (within fi 0 3) 0 l; rw [← hD1] at this; exact this
  have HNEW := Lib.hid (lw_new 1048576 w (by omega) (by omega))
  obtain ⟨F, hF⟩ : ∃ F, F = within fi 0 3 := ⟨_, rfl⟩
  have HWI : Hid (∀ W, Calls Try.prog 16 #[.int .i64 fi, .int .i64 0, .int .i64 3] W fun e w' => e = .returned (.int .i64 F) ∧ W = w') := Lib.hid (fun W => hF ▸ within_any fi 0 3 W hfi (by omega) (by omega) (by omega))
  have HF := Lib.hid hF
  rw [← hF] at hD1
  have HD1 := Lib.hid hD1
  have HR := Lib.hid hr
  have HBY := Lib.hid hw
  have HBL := Lib.hid hbl
  have HTI := Lib.hid ht
  have HVI := Lib.hid hv
  have HOP := Lib.hid hop
  have HMR := Lib.hid (fun W => MetaRuns_any W)
  have hmo := best_ok D1 2 (by omega)
  have how := open_wait D1
  obtain ⟨⟨f0, r0⟩, hmt⟩ : ∃ m, m = bestN D1 2 := ⟨_, rfl⟩
  rw [← hmt] at hmo
  obtain ⟨ds2, hds2⟩ : ∃ x, x = (openM D1).2 := ⟨_, rfl⟩
  rw [← hds2] at how
  have hso := set_ok ds2 ⟨f0, r0⟩ t v hmo
  obtain ⟨⟨ys, ds3, ⟨f3, ⟨a3, t3, v3⟩⟩⟩, hst⟩ : ∃ x, x = setM ds2 ⟨f0, r0⟩ t v := ⟨_, rfl⟩
  rw [← hst] at hso
  simp only at hso
  obtain ⟨s1, s2, s3, s4⟩ := hso
  obtain ⟨a0, t0, v0⟩ := r0
  unfold Mt.ok at hmo
  simp only at hmo
  obtain ⟨m1, m2, m3, m4, m5, m6⟩ := hmo
  have M1 := Lib.hid m1
  have M2 := Lib.hid m2
  have HMT := Lib.hid hmt
  have HDS := Lib.hid hds2
  have HST := Lib.hid hst
  clear hmt hds2 hst m1 m2
  clear hD1 hF hr hw hbl ht hv hop hfi hat
  go_enter Try.func3, Try.ntmps3
  go_wp2_with (first
    | (go_at_call 14; refine HNEW.out.mono ?_; rintro e wA ⟨g, rfl, h1⟩; have HA := Lib.hid h1; clear h1 HNEW)
    | (go_at_call 16; refine (HWI.out _).mono ?_; rintro e w1 ⟨rfl, rfl⟩; clear HWI)
    | (go_at_call 15; refine (lw_write HA.out F 0 A c l (HR.out.ext0 (Lw.x HA.out)) HBY.out (fun ad e hl => .inr (HBL.out ad e hl)) (by simp [emptyD]) (by omega)).mono ?_; rintro e wB ⟨rfl, h1, _⟩; rw [← HD1.out] at h1; have HB := Lib.hid h1; clear h1 HA)
    | (go_at_call 17; refine (open_anyM w [] [] g D1 _ HB.out (by omega)).mono ?_; rintro e wC h1; unfold OpenP at h1; rw [if_pos HOP.out, ← HMT.out, ← HDS.out] at h1; simp only at h1; obtain ⟨gm, rfl, h1, h2, h3⟩ := h1; have HM0 := Lib.hid h1; have HL0 := Lib.hid h2; have HG := Lib.hid h3; clear h1 h2 h3 HB)
    | (go_at_call 18; refine (mTerm_any gm g _ _ _ HM0.out).mono ?_; rintro e wT0 ⟨rfl, hx⟩; have HL1 := Lib.hid (HL0.out.ext0 hx); have HM1 := Lib.hid (meta_keep (w0 := w) HM0.out (ofQ hx)); clear hx HL0 HM0)
    | (go_at_call 18; refine (mTerm_any gm g _ _ _ HM1.out).mono ?_; rintro e wT1 ⟨rfl, hx⟩; have HL2 := Lib.hid (HL1.out.ext0 hx); have HM2 := Lib.hid (meta_keep (w0 := w) HM1.out (ofQ hx)); clear hx HL1 HM1)
    | (go_at_call 19; refine (mVote_any gm g _ _ _ HM2.out).mono ?_; rintro e wT2 ⟨rfl, hx⟩; have HL3 := Lib.hid (HL2.out.ext0 hx); have HM3 := Lib.hid (meta_keep (w0 := w) HM2.out (ofQ hx)); clear hx HL2 HM2)
    | (go_at_call 19; refine (mVote_any gm g _ _ _ HM3.out).mono ?_; rintro e wT3 ⟨rfl, hx⟩; have HL4 := Lib.hid (HL3.out.ext0 hx); have HM4 := Lib.hid (meta_keep (w0 := w) HM3.out (ofQ hx)); clear hx HL3 HM3)
    | (go_at_call 20; refine (mSet_any w gm g ds2 f0 ⟨a0, t0, v0⟩ t v _ HL4.out HM4.out HG.out M1.out M2.out HTI.out HVI.out (by omega)).mono ?_; rintro e wS h1; unfold SetP at h1; rw [← HST.out] at h1; simp only at h1; obtain ⟨rfl, h1, h2⟩ := h1; have HL5 := Lib.hid h1; have HM5 := Lib.hid h2; clear h1 h2 HL4 HM4 HG)
    | (go_at_call 18; refine (mTerm_any gm g _ _ _ HM5.out).mono ?_; rintro e wT5 ⟨rfl, hx⟩; have HL6 := Lib.hid (HL5.out.ext0 hx); have HM6 := Lib.hid (meta_keep (w0 := w) HM5.out (ofQ hx)); clear hx HL5 HM5)
    | (go_at_call 18; refine (mTerm_any gm g _ _ _ HM6.out).mono ?_; rintro e wT6 ⟨rfl, hx⟩; have HL7 := Lib.hid (HL6.out.ext0 hx); have HM7 := Lib.hid (meta_keep (w0 := w) HM6.out (ofQ hx)); clear hx HL6 HM6)
    | (go_at_call 19; refine (mVote_any gm g _ _ _ HM7.out).mono ?_; rintro e wT7 ⟨rfl, hx⟩; have HL8 := Lib.hid (HL7.out.ext0 hx); have HM8 := Lib.hid (meta_keep (w0 := w) HM7.out (ofQ hx)); clear hx HL7 HM7)
    | (go_at_call 19; refine (mVote_any gm g _ _ _ HM8.out).mono ?_; rintro e wT8 ⟨rfl, hx⟩; have HL9 := Lib.hid (HL8.out.ext0 hx); have HM9 := Lib.hid (meta_keep (w0 := w) HM8.out (ofQ hx)); clear hx HL8 HM8)
    | (go_at_call 11; refine (HMR.out _).mono ?_; rintro e wZ ⟨rfl, hx⟩; have HX := Lib.hid (((Lw.x HL9.out)).trans0 hx); clear hx HMR))
  go_ret
  exact ⟨rfl, HX.out⟩
set_option maxHeartbeats 16000000 in
theorem mo_loF (fi : Int) (hfi : I64 fi) (at_ : Int) (hat : I64 at_) (A : Option Addr) (c : Nat) (l : List Int) (hr : Row w A (B8 l)) (hc : l.length ≤ c) (hm : l.length ≤ 140737488351232) (hw : Byt l) (t : Int) (ht : I64 t) (v : Int) (hv : I64 v) (hbl : ∀ ad, A = some ad → 0 < l.length → ad.block < w.heap.size) (ha : at_ < 0) (D1 : DS) (hD1 : D1 = (writeD (emptyD 1048576) (within fi 0 3) 0 l).2) (hop : (openM D1).1 ≠ 0) : Calls Try.prog 3 #[.int .i64 fi, .int .i64 at_, .slice A l.length c, .int .i64 t, .int .i64 v] w fun e w' => e = .returned (.bool true) ∧ Ext None_ w w' := by
  have hwl : D1.wait.length ≤ 1 := by have := write_wait (emptyD 1048576) (within fi 0 3) 0 l; rw [← hD1] at this; exact this
  have HNEW := Lib.hid (lw_new 1048576 w (by omega) (by omega))
  obtain ⟨F, hF⟩ : ∃ F, F = within fi 0 3 := ⟨_, rfl⟩
  have HWI : Hid (∀ W, Calls Try.prog 16 #[.int .i64 fi, .int .i64 0, .int .i64 3] W fun e w' => e = .returned (.int .i64 F) ∧ W = w') := Lib.hid (fun W => hF ▸ within_any fi 0 3 W hfi (by omega) (by omega) (by omega))
  have HF := Lib.hid hF
  rw [← hF] at hD1
  have HD1 := Lib.hid hD1
  have HR := Lib.hid hr
  have HBY := Lib.hid hw
  have HBL := Lib.hid hbl
  have HTI := Lib.hid ht
  have HVI := Lib.hid hv
  have HOP := Lib.hid hop
  have HMR := Lib.hid (fun W => MetaRuns_any W)
  clear hD1 hF hr hw hbl ht hv hop hfi hat
  go_enter Try.func3, Try.ntmps3
  go_wp2_with (first
    | (go_at_call 14; refine HNEW.out.mono ?_; rintro e wA ⟨g, rfl, h1⟩; have HA := Lib.hid h1; clear h1 HNEW)
    | (go_at_call 16; refine (HWI.out _).mono ?_; rintro e w1 ⟨rfl, rfl⟩; clear HWI)
    | (go_at_call 15; refine (lw_write HA.out F 0 A c l (HR.out.ext0 (Lw.x HA.out)) HBY.out (fun ad e hl => .inr (HBL.out ad e hl)) (by simp [emptyD]) (by omega)).mono ?_; rintro e wB ⟨rfl, h1, _⟩; rw [← HD1.out] at h1; have HB := Lib.hid h1; clear h1 HA)
    | (go_at_call 17; refine (open_anyM w [] [] g D1 _ HB.out (by omega)).mono ?_; rintro e wC h1; unfold OpenP at h1; rw [if_neg HOP.out] at h1; obtain ⟨rfl, h2⟩ := h1; have HL0 := Lib.hid h2; clear h2 HB)
    | (go_at_call 11; refine (HMR.out _).mono ?_; rintro e wZ ⟨rfl, hx⟩; have HX := Lib.hid (((Lw.x HL0.out)).trans0 hx); clear hx HMR))
  go_ret
  exact ⟨rfl, HX.out⟩
set_option maxHeartbeats 16000000 in
theorem mo_hiT (fi : Int) (hfi : I64 fi) (at_ : Int) (hat : I64 at_) (A : Option Addr) (c : Nat) (l : List Int) (hr : Row w A (B8 l)) (hc : l.length ≤ c) (hm : l.length ≤ 140737488351232) (hw : Byt l) (t : Int) (ht : I64 t) (v : Int) (hv : I64 v) (hbl : ∀ ad, A = some ad → 0 < l.length → ad.block < w.heap.size) (ha : 500 < at_) (D1 : DS) (hD1 : D1 = (writeD (emptyD 1048576) (within fi 0 3) 0 l).2) (hop : (openM D1).1 = 0) : Calls Try.prog 3 #[.int .i64 fi, .int .i64 at_, .slice A l.length c, .int .i64 t, .int .i64 v] w fun e w' => e = .returned (.bool true) ∧ Ext None_ w w' := by
  have hwl : D1.wait.length ≤ 1 := by have := write_wait (emptyD 1048576) (within fi 0 3) 0 l; rw [← hD1] at this; exact this
  have HNEW := Lib.hid (lw_new 1048576 w (by omega) (by omega))
  obtain ⟨F, hF⟩ : ∃ F, F = within fi 0 3 := ⟨_, rfl⟩
  have HWI : Hid (∀ W, Calls Try.prog 16 #[.int .i64 fi, .int .i64 0, .int .i64 3] W fun e w' => e = .returned (.int .i64 F) ∧ W = w') := Lib.hid (fun W => hF ▸ within_any fi 0 3 W hfi (by omega) (by omega) (by omega))
  have HF := Lib.hid hF
  rw [← hF] at hD1
  have HD1 := Lib.hid hD1
  have HR := Lib.hid hr
  have HBY := Lib.hid hw
  have HBL := Lib.hid hbl
  have HTI := Lib.hid ht
  have HVI := Lib.hid hv
  have HOP := Lib.hid hop
  have HMR := Lib.hid (fun W => MetaRuns_any W)
  have hmo := best_ok D1 2 (by omega)
  have how := open_wait D1
  obtain ⟨⟨f0, r0⟩, hmt⟩ : ∃ m, m = bestN D1 2 := ⟨_, rfl⟩
  rw [← hmt] at hmo
  obtain ⟨ds2, hds2⟩ : ∃ x, x = (openM D1).2 := ⟨_, rfl⟩
  rw [← hds2] at how
  have hso := set_ok ds2 ⟨f0, r0⟩ t v hmo
  obtain ⟨⟨ys, ds3, ⟨f3, ⟨a3, t3, v3⟩⟩⟩, hst⟩ : ∃ x, x = setM ds2 ⟨f0, r0⟩ t v := ⟨_, rfl⟩
  rw [← hst] at hso
  simp only at hso
  obtain ⟨s1, s2, s3, s4⟩ := hso
  obtain ⟨a0, t0, v0⟩ := r0
  unfold Mt.ok at hmo
  simp only at hmo
  obtain ⟨m1, m2, m3, m4, m5, m6⟩ := hmo
  have M1 := Lib.hid m1
  have M2 := Lib.hid m2
  have HMT := Lib.hid hmt
  have HDS := Lib.hid hds2
  have HST := Lib.hid hst
  clear hmt hds2 hst m1 m2
  clear hD1 hF hr hw hbl ht hv hop hfi hat
  go_enter Try.func3, Try.ntmps3
  go_wp2_with (first
    | (go_at_call 14; refine HNEW.out.mono ?_; rintro e wA ⟨g, rfl, h1⟩; have HA := Lib.hid h1; clear h1 HNEW)
    | (go_at_call 16; refine (HWI.out _).mono ?_; rintro e w1 ⟨rfl, rfl⟩; clear HWI)
    | (go_at_call 15; refine (lw_write HA.out F 0 A c l (HR.out.ext0 (Lw.x HA.out)) HBY.out (fun ad e hl => .inr (HBL.out ad e hl)) (by simp [emptyD]) (by omega)).mono ?_; rintro e wB ⟨rfl, h1, _⟩; rw [← HD1.out] at h1; have HB := Lib.hid h1; clear h1 HA)
    | (go_at_call 17; refine (open_anyM w [] [] g D1 _ HB.out (by omega)).mono ?_; rintro e wC h1; unfold OpenP at h1; rw [if_pos HOP.out, ← HMT.out, ← HDS.out] at h1; simp only at h1; obtain ⟨gm, rfl, h1, h2, h3⟩ := h1; have HM0 := Lib.hid h1; have HL0 := Lib.hid h2; have HG := Lib.hid h3; clear h1 h2 h3 HB)
    | (go_at_call 18; refine (mTerm_any gm g _ _ _ HM0.out).mono ?_; rintro e wT0 ⟨rfl, hx⟩; have HL1 := Lib.hid (HL0.out.ext0 hx); have HM1 := Lib.hid (meta_keep (w0 := w) HM0.out (ofQ hx)); clear hx HL0 HM0)
    | (go_at_call 18; refine (mTerm_any gm g _ _ _ HM1.out).mono ?_; rintro e wT1 ⟨rfl, hx⟩; have HL2 := Lib.hid (HL1.out.ext0 hx); have HM2 := Lib.hid (meta_keep (w0 := w) HM1.out (ofQ hx)); clear hx HL1 HM1)
    | (go_at_call 19; refine (mVote_any gm g _ _ _ HM2.out).mono ?_; rintro e wT2 ⟨rfl, hx⟩; have HL3 := Lib.hid (HL2.out.ext0 hx); have HM3 := Lib.hid (meta_keep (w0 := w) HM2.out (ofQ hx)); clear hx HL2 HM2)
    | (go_at_call 19; refine (mVote_any gm g _ _ _ HM3.out).mono ?_; rintro e wT3 ⟨rfl, hx⟩; have HL4 := Lib.hid (HL3.out.ext0 hx); have HM4 := Lib.hid (meta_keep (w0 := w) HM3.out (ofQ hx)); clear hx HL3 HM3)
    | (go_at_call 20; refine (mSet_any w gm g ds2 f0 ⟨a0, t0, v0⟩ t v _ HL4.out HM4.out HG.out M1.out M2.out HTI.out HVI.out (by omega)).mono ?_; rintro e wS h1; unfold SetP at h1; rw [← HST.out] at h1; simp only at h1; obtain ⟨rfl, h1, h2⟩ := h1; have HL5 := Lib.hid h1; have HM5 := Lib.hid h2; clear h1 h2 HL4 HM4 HG)
    | (go_at_call 18; refine (mTerm_any gm g _ _ _ HM5.out).mono ?_; rintro e wT5 ⟨rfl, hx⟩; have HL6 := Lib.hid (HL5.out.ext0 hx); have HM6 := Lib.hid (meta_keep (w0 := w) HM5.out (ofQ hx)); clear hx HL5 HM5)
    | (go_at_call 18; refine (mTerm_any gm g _ _ _ HM6.out).mono ?_; rintro e wT6 ⟨rfl, hx⟩; have HL7 := Lib.hid (HL6.out.ext0 hx); have HM7 := Lib.hid (meta_keep (w0 := w) HM6.out (ofQ hx)); clear hx HL6 HM6)
    | (go_at_call 19; refine (mVote_any gm g _ _ _ HM7.out).mono ?_; rintro e wT7 ⟨rfl, hx⟩; have HL8 := Lib.hid (HL7.out.ext0 hx); have HM8 := Lib.hid (meta_keep (w0 := w) HM7.out (ofQ hx)); clear hx HL7 HM7)
    | (go_at_call 19; refine (mVote_any gm g _ _ _ HM8.out).mono ?_; rintro e wT8 ⟨rfl, hx⟩; have HL9 := Lib.hid (HL8.out.ext0 hx); have HM9 := Lib.hid (meta_keep (w0 := w) HM8.out (ofQ hx)); clear hx HL8 HM8)
    | (go_at_call 11; refine (HMR.out _).mono ?_; rintro e wZ ⟨rfl, hx⟩; have HX := Lib.hid (((Lw.x HL9.out)).trans0 hx); clear hx HMR))
  go_ret
  exact ⟨rfl, HX.out⟩
set_option maxHeartbeats 16000000 in
theorem mo_hiF (fi : Int) (hfi : I64 fi) (at_ : Int) (hat : I64 at_) (A : Option Addr) (c : Nat) (l : List Int) (hr : Row w A (B8 l)) (hc : l.length ≤ c) (hm : l.length ≤ 140737488351232) (hw : Byt l) (t : Int) (ht : I64 t) (v : Int) (hv : I64 v) (hbl : ∀ ad, A = some ad → 0 < l.length → ad.block < w.heap.size) (ha : 500 < at_) (D1 : DS) (hD1 : D1 = (writeD (emptyD 1048576) (within fi 0 3) 0 l).2) (hop : (openM D1).1 ≠ 0) : Calls Try.prog 3 #[.int .i64 fi, .int .i64 at_, .slice A l.length c, .int .i64 t, .int .i64 v] w fun e w' => e = .returned (.bool true) ∧ Ext None_ w w' := by
  have hwl : D1.wait.length ≤ 1 := by have := write_wait (emptyD 1048576) (within fi 0 3) 0 l; rw [← hD1] at this; exact this
  have HNEW := Lib.hid (lw_new 1048576 w (by omega) (by omega))
  obtain ⟨F, hF⟩ : ∃ F, F = within fi 0 3 := ⟨_, rfl⟩
  have HWI : Hid (∀ W, Calls Try.prog 16 #[.int .i64 fi, .int .i64 0, .int .i64 3] W fun e w' => e = .returned (.int .i64 F) ∧ W = w') := Lib.hid (fun W => hF ▸ within_any fi 0 3 W hfi (by omega) (by omega) (by omega))
  have HF := Lib.hid hF
  rw [← hF] at hD1
  have HD1 := Lib.hid hD1
  have HR := Lib.hid hr
  have HBY := Lib.hid hw
  have HBL := Lib.hid hbl
  have HTI := Lib.hid ht
  have HVI := Lib.hid hv
  have HOP := Lib.hid hop
  have HMR := Lib.hid (fun W => MetaRuns_any W)
  clear hD1 hF hr hw hbl ht hv hop hfi hat
  go_enter Try.func3, Try.ntmps3
  go_wp2_with (first
    | (go_at_call 14; refine HNEW.out.mono ?_; rintro e wA ⟨g, rfl, h1⟩; have HA := Lib.hid h1; clear h1 HNEW)
    | (go_at_call 16; refine (HWI.out _).mono ?_; rintro e w1 ⟨rfl, rfl⟩; clear HWI)
    | (go_at_call 15; refine (lw_write HA.out F 0 A c l (HR.out.ext0 (Lw.x HA.out)) HBY.out (fun ad e hl => .inr (HBL.out ad e hl)) (by simp [emptyD]) (by omega)).mono ?_; rintro e wB ⟨rfl, h1, _⟩; rw [← HD1.out] at h1; have HB := Lib.hid h1; clear h1 HA)
    | (go_at_call 17; refine (open_anyM w [] [] g D1 _ HB.out (by omega)).mono ?_; rintro e wC h1; unfold OpenP at h1; rw [if_neg HOP.out] at h1; obtain ⟨rfl, h2⟩ := h1; have HL0 := Lib.hid h2; clear h2 HB)
    | (go_at_call 11; refine (HMR.out _).mono ?_; rintro e wZ ⟨rfl, hx⟩; have HX := Lib.hid (((Lw.x HL0.out)).trans0 hx); clear hx HMR))
  go_ret
  exact ⟨rfl, HX.out⟩
set_option maxHeartbeats 16000000 in
theorem mo_midT (fi : Int) (hfi : I64 fi) (at_ : Int) (hat : I64 at_) (A : Option Addr) (c : Nat) (l : List Int) (hr : Row w A (B8 l)) (hc : l.length ≤ c) (hm : l.length ≤ 140737488351232) (hw : Byt l) (t : Int) (ht : I64 t) (v : Int) (hv : I64 v) (hbl : ∀ ad, A = some ad → 0 < l.length → ad.block < w.heap.size) (ha : 0 ≤ at_) (hb : at_ ≤ 500) (D1 : DS) (hD1 : D1 = (writeD (emptyD 1048576) (within fi 0 3) at_ l).2) (hop : (openM D1).1 = 0) : Calls Try.prog 3 #[.int .i64 fi, .int .i64 at_, .slice A l.length c, .int .i64 t, .int .i64 v] w fun e w' => e = .returned (.bool true) ∧ Ext None_ w w' := by
  have hwl : D1.wait.length ≤ 1 := by have := write_wait (emptyD 1048576) (within fi 0 3) at_ l; rw [← hD1] at this; exact this
  have HNEW := Lib.hid (lw_new 1048576 w (by omega) (by omega))
  obtain ⟨F, hF⟩ : ∃ F, F = within fi 0 3 := ⟨_, rfl⟩
  have HWI : Hid (∀ W, Calls Try.prog 16 #[.int .i64 fi, .int .i64 0, .int .i64 3] W fun e w' => e = .returned (.int .i64 F) ∧ W = w') := Lib.hid (fun W => hF ▸ within_any fi 0 3 W hfi (by omega) (by omega) (by omega))
  have HF := Lib.hid hF
  rw [← hF] at hD1
  have HD1 := Lib.hid hD1
  have HR := Lib.hid hr
  have HBY := Lib.hid hw
  have HBL := Lib.hid hbl
  have HTI := Lib.hid ht
  have HVI := Lib.hid hv
  have HOP := Lib.hid hop
  have HMR := Lib.hid (fun W => MetaRuns_any W)
  have hmo := best_ok D1 2 (by omega)
  have how := open_wait D1
  obtain ⟨⟨f0, r0⟩, hmt⟩ : ∃ m, m = bestN D1 2 := ⟨_, rfl⟩
  rw [← hmt] at hmo
  obtain ⟨ds2, hds2⟩ : ∃ x, x = (openM D1).2 := ⟨_, rfl⟩
  rw [← hds2] at how
  have hso := set_ok ds2 ⟨f0, r0⟩ t v hmo
  obtain ⟨⟨ys, ds3, ⟨f3, ⟨a3, t3, v3⟩⟩⟩, hst⟩ : ∃ x, x = setM ds2 ⟨f0, r0⟩ t v := ⟨_, rfl⟩
  rw [← hst] at hso
  simp only at hso
  obtain ⟨s1, s2, s3, s4⟩ := hso
  obtain ⟨a0, t0, v0⟩ := r0
  unfold Mt.ok at hmo
  simp only at hmo
  obtain ⟨m1, m2, m3, m4, m5, m6⟩ := hmo
  have M1 := Lib.hid m1
  have M2 := Lib.hid m2
  have HMT := Lib.hid hmt
  have HDS := Lib.hid hds2
  have HST := Lib.hid hst
  clear hmt hds2 hst m1 m2
  clear hD1 hF hr hw hbl ht hv hop hfi
  go_enter Try.func3, Try.ntmps3
  go_wp2_with (first
    | (go_at_call 14; refine HNEW.out.mono ?_; rintro e wA ⟨g, rfl, h1⟩; have HA := Lib.hid h1; clear h1 HNEW)
    | (go_at_call 16; refine (HWI.out _).mono ?_; rintro e w1 ⟨rfl, rfl⟩; clear HWI)
    | (go_at_call 15; refine (lw_write HA.out F at_ A c l (HR.out.ext0 (Lw.x HA.out)) HBY.out (fun ad e hl => .inr (HBL.out ad e hl)) (by simp [emptyD]) (by omega)).mono ?_; rintro e wB ⟨rfl, h1, _⟩; rw [← HD1.out] at h1; have HB := Lib.hid h1; clear h1 HA)
    | (go_at_call 17; refine (open_anyM w [] [] g D1 _ HB.out (by omega)).mono ?_; rintro e wC h1; unfold OpenP at h1; rw [if_pos HOP.out, ← HMT.out, ← HDS.out] at h1; simp only at h1; obtain ⟨gm, rfl, h1, h2, h3⟩ := h1; have HM0 := Lib.hid h1; have HL0 := Lib.hid h2; have HG := Lib.hid h3; clear h1 h2 h3 HB)
    | (go_at_call 18; refine (mTerm_any gm g _ _ _ HM0.out).mono ?_; rintro e wT0 ⟨rfl, hx⟩; have HL1 := Lib.hid (HL0.out.ext0 hx); have HM1 := Lib.hid (meta_keep (w0 := w) HM0.out (ofQ hx)); clear hx HL0 HM0)
    | (go_at_call 18; refine (mTerm_any gm g _ _ _ HM1.out).mono ?_; rintro e wT1 ⟨rfl, hx⟩; have HL2 := Lib.hid (HL1.out.ext0 hx); have HM2 := Lib.hid (meta_keep (w0 := w) HM1.out (ofQ hx)); clear hx HL1 HM1)
    | (go_at_call 19; refine (mVote_any gm g _ _ _ HM2.out).mono ?_; rintro e wT2 ⟨rfl, hx⟩; have HL3 := Lib.hid (HL2.out.ext0 hx); have HM3 := Lib.hid (meta_keep (w0 := w) HM2.out (ofQ hx)); clear hx HL2 HM2)
    | (go_at_call 19; refine (mVote_any gm g _ _ _ HM3.out).mono ?_; rintro e wT3 ⟨rfl, hx⟩; have HL4 := Lib.hid (HL3.out.ext0 hx); have HM4 := Lib.hid (meta_keep (w0 := w) HM3.out (ofQ hx)); clear hx HL3 HM3)
    | (go_at_call 20; refine (mSet_any w gm g ds2 f0 ⟨a0, t0, v0⟩ t v _ HL4.out HM4.out HG.out M1.out M2.out HTI.out HVI.out (by omega)).mono ?_; rintro e wS h1; unfold SetP at h1; rw [← HST.out] at h1; simp only at h1; obtain ⟨rfl, h1, h2⟩ := h1; have HL5 := Lib.hid h1; have HM5 := Lib.hid h2; clear h1 h2 HL4 HM4 HG)
    | (go_at_call 18; refine (mTerm_any gm g _ _ _ HM5.out).mono ?_; rintro e wT5 ⟨rfl, hx⟩; have HL6 := Lib.hid (HL5.out.ext0 hx); have HM6 := Lib.hid (meta_keep (w0 := w) HM5.out (ofQ hx)); clear hx HL5 HM5)
    | (go_at_call 18; refine (mTerm_any gm g _ _ _ HM6.out).mono ?_; rintro e wT6 ⟨rfl, hx⟩; have HL7 := Lib.hid (HL6.out.ext0 hx); have HM7 := Lib.hid (meta_keep (w0 := w) HM6.out (ofQ hx)); clear hx HL6 HM6)
    | (go_at_call 19; refine (mVote_any gm g _ _ _ HM7.out).mono ?_; rintro e wT7 ⟨rfl, hx⟩; have HL8 := Lib.hid (HL7.out.ext0 hx); have HM8 := Lib.hid (meta_keep (w0 := w) HM7.out (ofQ hx)); clear hx HL7 HM7)
    | (go_at_call 19; refine (mVote_any gm g _ _ _ HM8.out).mono ?_; rintro e wT8 ⟨rfl, hx⟩; have HL9 := Lib.hid (HL8.out.ext0 hx); have HM9 := Lib.hid (meta_keep (w0 := w) HM8.out (ofQ hx)); clear hx HL8 HM8)
    | (go_at_call 11; refine (HMR.out _).mono ?_; rintro e wZ ⟨rfl, hx⟩; have HX := Lib.hid (((Lw.x HL9.out)).trans0 hx); clear hx HMR))
  go_ret
  exact ⟨rfl, HX.out⟩
set_option maxHeartbeats 16000000 in
theorem mo_midF (fi : Int) (hfi : I64 fi) (at_ : Int) (hat : I64 at_) (A : Option Addr) (c : Nat) (l : List Int) (hr : Row w A (B8 l)) (hc : l.length ≤ c) (hm : l.length ≤ 140737488351232) (hw : Byt l) (t : Int) (ht : I64 t) (v : Int) (hv : I64 v) (hbl : ∀ ad, A = some ad → 0 < l.length → ad.block < w.heap.size) (ha : 0 ≤ at_) (hb : at_ ≤ 500) (D1 : DS) (hD1 : D1 = (writeD (emptyD 1048576) (within fi 0 3) at_ l).2) (hop : (openM D1).1 ≠ 0) : Calls Try.prog 3 #[.int .i64 fi, .int .i64 at_, .slice A l.length c, .int .i64 t, .int .i64 v] w fun e w' => e = .returned (.bool true) ∧ Ext None_ w w' := by
  have hwl : D1.wait.length ≤ 1 := by have := write_wait (emptyD 1048576) (within fi 0 3) at_ l; rw [← hD1] at this; exact this
  have HNEW := Lib.hid (lw_new 1048576 w (by omega) (by omega))
  obtain ⟨F, hF⟩ : ∃ F, F = within fi 0 3 := ⟨_, rfl⟩
  have HWI : Hid (∀ W, Calls Try.prog 16 #[.int .i64 fi, .int .i64 0, .int .i64 3] W fun e w' => e = .returned (.int .i64 F) ∧ W = w') := Lib.hid (fun W => hF ▸ within_any fi 0 3 W hfi (by omega) (by omega) (by omega))
  have HF := Lib.hid hF
  rw [← hF] at hD1
  have HD1 := Lib.hid hD1
  have HR := Lib.hid hr
  have HBY := Lib.hid hw
  have HBL := Lib.hid hbl
  have HTI := Lib.hid ht
  have HVI := Lib.hid hv
  have HOP := Lib.hid hop
  have HMR := Lib.hid (fun W => MetaRuns_any W)
  clear hD1 hF hr hw hbl ht hv hop hfi
  go_enter Try.func3, Try.ntmps3
  go_wp2_with (first
    | (go_at_call 14; refine HNEW.out.mono ?_; rintro e wA ⟨g, rfl, h1⟩; have HA := Lib.hid h1; clear h1 HNEW)
    | (go_at_call 16; refine (HWI.out _).mono ?_; rintro e w1 ⟨rfl, rfl⟩; clear HWI)
    | (go_at_call 15; refine (lw_write HA.out F at_ A c l (HR.out.ext0 (Lw.x HA.out)) HBY.out (fun ad e hl => .inr (HBL.out ad e hl)) (by simp [emptyD]) (by omega)).mono ?_; rintro e wB ⟨rfl, h1, _⟩; rw [← HD1.out] at h1; have HB := Lib.hid h1; clear h1 HA)
    | (go_at_call 17; refine (open_anyM w [] [] g D1 _ HB.out (by omega)).mono ?_; rintro e wC h1; unfold OpenP at h1; rw [if_neg HOP.out] at h1; obtain ⟨rfl, h2⟩ := h1; have HL0 := Lib.hid h2; clear h2 HB)
    | (go_at_call 11; refine (HMR.out _).mono ?_; rintro e wZ ⟨rfl, hx⟩; have HX := Lib.hid (((Lw.x HL0.out)).trans0 hx); clear hx HMR))
  go_ret
  exact ⟨rfl, HX.out⟩
theorem MetaOthers_any (fi : Int) (hfi : I64 fi) (at_ : Int) (hat : I64 at_) {A : Option Addr} {c : Nat} (l : List Int) (hr : Row w A (B8 l)) (hc : l.length ≤ c) (hm : c ≤ 140737488351232) (hw : Byt l) (t : Int) (ht : I64 t) (v : Int) (hv : I64 v) : Calls Try.prog 3 #[.int .i64 fi, .int .i64 at_, .slice A l.length c, .int .i64 t, .int .i64 v] w fun e w' => e = .returned (.bool true) ∧ Ext None_ w w' := by
  have hbl : ∀ ad, A = some ad → 0 < l.length → ad.block < w.heap.size := by
    intro ad e hl
    subst e
    exact Row.lt hr (by simp only [B8, List.length_map]; exact hl) _ rfl
  have hm2 : l.length ≤ 140737488351232 := by omega
  by_cases ha : at_ < 0
  · by_cases ho : (openM (writeD (emptyD 1048576) (within fi 0 3) 0 l).2).1 = 0
    · exact mo_loT fi hfi at_ hat A c l hr hc hm2 hw t ht v hv hbl ha _ rfl ho
    · exact mo_loF fi hfi at_ hat A c l hr hc hm2 hw t ht v hv hbl ha _ rfl ho
  · by_cases hb : 500 < at_
    · by_cases ho : (openM (writeD (emptyD 1048576) (within fi 0 3) 0 l).2).1 = 0
      · exact mo_hiT fi hfi at_ hat A c l hr hc hm2 hw t ht v hv hbl hb _ rfl ho
      · exact mo_hiF fi hfi at_ hat A c l hr hc hm2 hw t ht v hv hbl hb _ rfl ho
    · by_cases ho : (openM (writeD (emptyD 1048576) (within fi 0 3) at_ l).2).1 = 0
      · exact mo_midT fi hfi at_ hat A c l hr hc hm2 hw t ht v hv hbl (by omega) (by omega) _ rfl ho
      · exact mo_midF fi hfi at_ hat A c l hr hc hm2 hw t ht v hv hbl (by omega) (by omega) _ rfl ho
theorem MetaOthers_row (fi : Int) (hfi : (Lit.int .i64 fi).wf = true) (at_ : Int) (hat : (Lit.int .i64 at_).wf = true) {A : Option Addr} {c : Nat} (l : List Int) (hr : Row w A (B8 l)) (hc : l.length ≤ c) (hm : c ≤ 140737488351232) (hw : Byt l) (t : Int) (ht : (Lit.int .i64 t).wf = true) (v : Int) (hv : (Lit.int .i64 v).wf = true) : Calls Try.prog 3 #[.int .i64 fi, .int .i64 at_, .slice A l.length c, .int .i64 t, .int .i64 v] w fun e w' => e = .returned (.bool true) ∧ Ext None_ w w' :=
  MetaOthers_any fi (i64_of hfi) at_ (i64_of hat) l hr hc hm hw t (i64_of ht) v (i64_of hv)
end
end Go.Proofs.Ytakcdmmniaipeaa
