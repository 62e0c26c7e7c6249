/- The document's disk, walked: file, used, now, counted, Arm, Off, Waiting, Size. -/
import Derived.Test.YtakcdmmniaipeaaRd2
set_option linter.unusedVariables false
set_option linter.unusedSimpArgs false
namespace Go.Proofs.Ytakcdmmniaipeaa
open Go.RowKit B
structure RD (w : World) (Z : Nat → Prop) (g : Nat) (D : DS) : Prop where
  at_ : RefAt w Z g D
  ok : D.ok
  fi : D.files = rp D.wait D.safe
  len : D.wait.length ≤ 1000
theorem RD.ext0 {w w1 : World} {Z : Nat → Prop} {g : Nat} {D : DS} (h : RD w Z g D) (hx : Ext None_ w w1) : RD w1 Z g D := ⟨h.at_.ext0 hx, h.ok, h.fi, h.len⟩
theorem RefAt.cells {w : World} {Z : Nat → Prop} {g : Nat} {D : DS} (h : RefAt w Z g D) : ∃ b c A c2, (w.cell? ⟨g, 0, none⟩ = some (.slice (some ⟨b, 0, none⟩) D.safe.length c) ∧ w.cell? ⟨g, 1, none⟩ = some (.slice A D.wait.length c2) ∧ w.cell? ⟨g, 2, none⟩ = some (.int .i64 D.quota) ∧ w.cell? ⟨g, 3, none⟩ = some (.int .i64 D.armed) ∧ w.cell? ⟨g, 4, none⟩ = some (.bool D.off)) ∧ (∀ i, w.frozen? ⟨g, i, none⟩ = false) ∧ RF w Z (.slice (some ⟨b, 0, none⟩) D.safe.length c) D.safe ∧ RW w Z (.slice A D.wait.length c2) D.wait := by
  obtain ⟨⟨fv, wv, h1, h2, h3⟩, h4, h5⟩ := h
  obtain ⟨b, c, vs, rfl, h2'⟩ := id h2
  obtain ⟨A, c2, pv, rfl, h3'⟩ := id h3
  exact ⟨b, c, A, c2, ⟨h1.cell 0, h1.cell 1, h1.cell 2, h1.cell 3, h1.cell 4⟩, h1.frozen, h2, h3⟩
theorem rfile_any (f : Int) (w : World) : Calls Try.prog 80 #[.int .i64 f] w fun e w' => e = .returned (.bool (inF f)) ∧ w = w' := by
  unfold inF
  by_cases h : 0 ≤ f
  · by_cases h2 : f < 64
    · go_enter Try.func80, Try.ntmps80
      go_wp2
      go_ret
      exact ⟨by simp [h, h2], rfl⟩
    · go_enter Try.func80, Try.ntmps80
      go_wp2
      go_ret
      exact ⟨by simp [h, h2], rfl⟩
  · go_enter Try.func80, Try.ntmps80
    go_wp2
    go_ret
    exact ⟨by simp [show ¬ 0 ≤ f by omega], rfl⟩
set_option maxHeartbeats 2000000 in
theorem used_any (w : World) (Z : Nat → Prop) (fv : Value) (F : List (List Int)) (hf : RF w Z fv F) (h64 : F.length = 64) (hl : ∀ l ∈ F, l.length ≤ 1048576) : Calls Try.prog 82 #[fv] w fun e w' => e = .returned (.int .i64 (heldN F)) ∧ Ext None_ w w' := by
  have HB := Lib.hid (fun k => heldN_bound F k hl h64)
  have HM := Lib.hid (fun (k : Nat) (hk : k < 64) => hl _ (fileAt_mem (fs := F) (i := k) (by omega)))
  have HFL := Lib.hid (fun (k : Nat) (hk : k < 64) (W : World) (hx : Ext None_ w W) => (hf.ext0 hx).file (i := k) (by omega))
  have HS := Lib.hid (fun (k : Nat) (hk : k < F.length) => heldN_take (fs := F) hk)
  have HE : Hid (heldN (F.take 64) = heldN F) := Lib.hid (by rw [← h64, List.take_length])
  obtain ⟨b, c, vs, rfl, h2, _⟩ := hf
  rw [h64] at HFL h2 ⊢
  clear hl
  go_enter Try.func82, Try.ntmps82
  go_wp2
  go_loopw [3, 4] (fun v3 v4 wr => ∃ (k : Nat), v3 = .int .i64 (heldN (F.take k)) ∧ v4 = .int .i64 k ∧ k ≤ 64 ∧ Hid (Ext None_ w wr)) (fun _ v4 _ => 64 - (intOf v4).toNat)
  case atStart => exact ⟨0, rfl, rfl, by omega, Lib.hid (Ext.refl _ _)⟩
  case round =>
    obtain ⟨k, rfl, rfl, hk, hx⟩ := hrel
    have hb1 := HB.out k
    have hb2 := HB.out (k + 1)
    by_cases hend : k = 64
    · subst hend
      have HE' := HE.out
      go_wp2
      go_ret
      rw [HE']
      exact ⟨rfl, hx.out⟩
    · have hlt : k < 64 := by omega
      obtain ⟨b', c', A1, cc1, e1, _, _, hc1, hcc1, _⟩ := HFL.out k hlt _ hx.out
      cases e1
      have HS1 := Lib.hid (HS.out k (by omega))
      have hl1 := HM.out k hlt
      go_wp2
      exact ⟨⟨k + 1, by rw [HS1.out]; simp, by simp, by omega, hx⟩, by simp only [intOf]; omega⟩
set_option maxRecDepth 100000 in
set_option maxHeartbeats 4000000 in
theorem rnow_any (w : World) (Z : Nat → Prop) (g : Nat) (D : DS) (h : RD w Z g D) : Calls Try.prog 81 #[.pointer (some ⟨g, 0, none⟩)] w fun e w' => ∃ v', e = .returned v' ∧ RF w' (Zx w Z) v' D.files ∧ Ext None_ w w' := by
  have hfi := h.fi
  have hln := h.len
  have HOK := Lib.hid h.ok
  obtain ⟨b, c, A, c2, ⟨c0, c1, _⟩, _, hrf, hrw⟩ := h.at_.cells
  have HW := Lib.hid hrw
  have HF0 : Hid (RF w (Zx w Z) (.slice (some ⟨b, 0, none⟩) D.safe.length c) (rp (D.wait.take 0) D.safe)) := Lib.hid (hrf.mono (fun _ _ h => .inl h))
  have HFI := Lib.hid hfi
  have HS : Hid (∀ k, k ≤ D.wait.length → (rp (D.wait.take k) D.safe).length = 64 ∧ ∀ l ∈ rp (D.wait.take k) D.safe, l.length ≤ 1048576) := Lib.hid (fun k => by
    induction k with
    | zero => intro _; exact ⟨HOK.out.s64, HOK.out.sl⟩
    | succ k ih =>
      intro hk
      obtain ⟨i1, i2⟩ := ih (by omega)
      rw [rp_take (by omega)]
      exact ⟨by rw [stepF_length]; exact i1, stepF_small i2 (HOK.out.chg _ (List.getElem_mem _)) i1⟩)
  obtain ⟨n, hn⟩ : ∃ n, n = D.wait.length := ⟨_, rfl⟩
  have HN := Lib.hid hn
  rw [← hn] at c1 hln
  clear h hrf hrw hfi hn
  go_enter Try.func81, Try.ntmps81
  go_wp2_with fail
  go_loopw [3, 4] (fun v3 v4 wr => ∃ (k : Nat), v4 = .int .i64 k ∧ k ≤ n ∧ Hid (RF wr (Zx w Z) v3 (rp (D.wait.take k) D.safe)) ∧ Hid (Ext None_ w wr)) (fun _ v4 _ => n - (intOf v4).toNat)
  case atStart => exact ⟨0, rfl, by omega, HF0, Lib.hid (Ext.refl _ _)⟩
  case round =>
    clear HF0
    obtain ⟨k, rfl, hk, hrf, hx⟩ := hrel
    have d1 := hx.out.cell c1 (fun a => a)
    by_cases hend : k = n
    · subst hend
      go_wp2_with fail
      go_ret
      refine ⟨_, rfl, ?_, hx.out⟩
      have hr := hrf.out
      rw [HN.out, List.take_length, ← HFI.out] at hr
      exact hr
    · have hlt : k < n := by omega
      obtain ⟨ad, cx, B, cb, e0, h1, h2, ⟨q0, q1, q2, q3⟩, hsl⟩ := (HW.out.ext0 hx.out).at_ (i := k) (by have := HN.out; omega)
      obtain ⟨rfl, _, rfl⟩ : A = some ad ∧ D.wait.length = D.wait.length ∧ c2 = cx := by simpa using e0
      have hcok : (D.wait[k]'(by have := HN.out; omega)).ok := HOK.out.chg _ (List.getElem_mem _)
      have HSTEP := Lib.hid (rp_take (ch := D.wait) (k := k) (by have := HN.out; omega) D.safe)
      obtain ⟨q, hq⟩ : ∃ q, q = D.wait[k]'(by have := HN.out; omega) := ⟨_, rfl⟩
      rw [← hq] at q0 q1 q2 q3 hsl hcok HSTEP
      have HSL := Lib.hid hsl
      obtain ⟨x0', hx0⟩ : ∃ x : Int, x = q.file := ⟨_, rfl⟩
      obtain ⟨x1, hx1⟩ : ∃ x : Int, x = if q.cut = true then 0 else (q.at_ : Int) := ⟨_, rfl⟩
      obtain ⟨x2, hx2⟩ : ∃ x : Int, x = if q.cut = true then (q.at_ : Int) else -1 := ⟨_, rfl⟩
      rw [← hx0] at q0
      rw [← hx1] at q1
      rw [← hx2] at q2
      have HQ := Lib.hid (And.intro hx0 (And.intro hx1 hx2))
      clear e0 hsl hq hx0 hx1 hx2
      go_wp2_with fail
      refine (made_any wr (Zx w Z) _ (rp (D.wait.take k) D.safe) hrf.out (HS.out k (by have := HN.out; omega)).1 (HS.out k (by have := HN.out; omega)).2 q hcok x0' x1 x2 HQ.out.1 HQ.out.2.1 HQ.out.2.2 (.slice B q.p.length cb) (HSL.out.mono (fun _ _ h => .inl h))).mono ?_
      rintro e w1 ⟨v', rfl, hr1, hx1⟩
      have HR1 : Hid (RF w1 (Zx w Z) v' (rp (D.wait.take (k + 1)) D.safe)) := Lib.hid (by
        rw [HSTEP.out]
        exact hr1.mono (fun j _ h => by
          rcases h with h | h
          · exact h
          · exact .inr (Nat.le_trans hx.out.size h)))
      have HX1 := Lib.hid (hx.out.trans0 hx1)
      clear hr1 hx1 hrf
      go_wp2_with fail
      go_roundw
      case rel => exact ⟨k + 1, by go_num, by omega, HR1, HX1⟩
      case measure => simp [intOf]; omega
theorem RefAt.setArm {w : World} {Z : Nat → Prop} {g : Nat} {D : DS} (h : RefAt w Z g D) (n : Int) : RefAt (w.setCell ⟨g, 3, none⟩ (.int .i64 n)) Z g { D with armed := n } := by
  obtain ⟨⟨fv, wv, h1, h2, h3⟩, h4, h5⟩ := h
  have he : Ext (fun k => k = g) w (w.setCell ⟨g, 3, none⟩ (.int .i64 n)) := (Ext.refl (fun k => k = g) w).setCell (p := ⟨g, 3, none⟩) (Or.inl rfl) _
  have hn : ∀ k, Z k → ¬ k = g := fun k hk e => h4 (e ▸ hk)
  exact ⟨⟨fv, wv, h1.set 3 _, h2.ext he hn, h3.ext he hn⟩, h4, fun k hk => Nat.lt_of_lt_of_le (h5 k hk) he.size⟩
theorem RefAt.setOff {w : World} {Z : Nat → Prop} {g : Nat} {D : DS} (h : RefAt w Z g D) (b : Bool) : RefAt (w.setCell ⟨g, 4, none⟩ (.bool b)) Z g { D with off := b } := by
  obtain ⟨⟨fv, wv, h1, h2, h3⟩, h4, h5⟩ := h
  have he : Ext (fun k => k = g) w (w.setCell ⟨g, 4, none⟩ (.bool b)) := (Ext.refl (fun k => k = g) w).setCell (p := ⟨g, 4, none⟩) (Or.inl rfl) _
  have hn : ∀ k, Z k → ¬ k = g := fun k hk e => h4 (e ▸ hk)
  exact ⟨⟨fv, wv, h1.set 4 _, h2.ext he hn, h3.ext he hn⟩, h4, fun k hk => Nat.lt_of_lt_of_le (h5 k hk) he.size⟩
set_option maxRecDepth 100000 in
set_option maxHeartbeats 4000000 in
theorem rcounted_any (w : World) (Z : Nat → Prop) (g : Nat) (D : DS) (h : RefAt w Z g D) (ha0 : 0 ≤ D.armed) (ha1 : D.armed ≤ 9223372036854775807) : Calls Try.prog 79 #[.pointer (some ⟨g, 0, none⟩)] w fun e w' => e = .returned (.bool (countD D).1) ∧ RefAt w' Z g (countD D).2 ∧ Ext (fun k => k = g) w w' := by
  have HD := Lib.hid h
  obtain ⟨b, c, A, c2, ⟨c0, c1, c3, c4, c5⟩, cf, _⟩ := h.cells
  clear h
  unfold countD
  by_cases ho : D.off = true
  · rw [if_pos ho]
    rw [ho] at c5
    clear ho
    go_enter Try.func79, Try.ntmps79
    go_wp2
    go_ret
    exact ⟨rfl, HD.out, Ext.refl _ _⟩
  · rw [if_neg ho]
    rw [show D.off = false by simpa using ho] at c5
    have HO := Lib.hid (show D.off = false by simpa using ho)
    clear ho
    by_cases ha : 0 < D.armed
    · rw [if_pos ha]
      have HU1 := Lib.hid (HD.out.setArm (D.armed - 1))
      by_cases h1 : D.armed - 1 = 0
      · have HU := Lib.hid ((HD.out.setArm 0).setOff true)
        have hb : (D.armed - 1 == 0) = true := by simp [h1]
        obtain ⟨bz, hbz⟩ : ∃ b, b = (D.armed - 1 == 0) := ⟨_, rfl⟩
        rw [← hbz]
        have HB : Hid (bz = true) := Lib.hid (by rw [hbz, hb])
        clear hbz
        go_enter Try.func79, Try.ntmps79
        go_wp2
        go_ret
        rw [HB.out]
        exact ⟨rfl, HU.out, ((Ext.refl (fun k => k = g) w).setCell (p := ⟨g, 3, none⟩) (Or.inl rfl) _).setCell (p := ⟨g, 4, none⟩) (Or.inl rfl) _⟩
      · have hb : (D.armed - 1 == 0) = false := by simp [h1]
        have HB := Lib.hid hb
        have HDD : Hid ({ D with armed := D.armed - 1, off := false } = { D with armed := D.armed - 1 }) := Lib.hid (by rw [← HO.out])
        go_enter Try.func79, Try.ntmps79
        go_wp2
        go_ret
        rw [HB.out, HDD.out]
        exact ⟨rfl, HU1.out, (Ext.refl (fun k => k = g) w).setCell (p := ⟨g, 3, none⟩) (Or.inl rfl) _⟩
    · rw [if_neg ha]
      go_enter Try.func79, Try.ntmps79
      go_wp2
      go_ret
      exact ⟨rfl, HD.out, Ext.refl _ _⟩
set_option maxRecDepth 100000 in
set_option maxHeartbeats 4000000 in
theorem rarm_any (w : World) (Z : Nat → Prop) (g : Nat) (D : DS) (n : Int) (h : RefAt w Z g D) : Calls Try.prog 59 #[.pointer (some ⟨g, 0, none⟩), .int .i64 n] w fun e w' => e = .returned (.tuple #[]) ∧ RefAt w' Z g (armD D n) ∧ Ext (fun k => k = g) w w' := by
  have HD := Lib.hid h
  obtain ⟨b, c, A, c2, ⟨c0, c1, c3, c4, c5⟩, cf, _⟩ := h.cells
  clear h
  unfold armD
  by_cases ho : D.off = true
  · rw [if_pos ho]
    rw [ho] at c5
    clear ho
    by_cases hn : n < 1
    · go_enter Try.func59, Try.ntmps59
      go_wp2
      go_end0
      exact ⟨rfl, HD.out, Ext.refl _ _⟩
    · go_enter Try.func59, Try.ntmps59
      go_wp2
      go_end0
      exact ⟨rfl, HD.out, Ext.refl _ _⟩
  · rw [if_neg ho]
    rw [show D.off = false by simpa using ho] at c5
    clear ho
    by_cases hn : n < 1
    · have HU := Lib.hid (HD.out.setArm 0)
      have HM : Hid (max n 0 = 0) := Lib.hid (by omega)
      go_enter Try.func59, Try.ntmps59
      go_wp2
      go_end0
      rw [HM.out]
      exact ⟨rfl, HU.out, (Ext.refl (fun k => k = g) w).setCell (p := ⟨g, 3, none⟩) (Or.inl rfl) _⟩
    · have HU := Lib.hid (HD.out.setArm n)
      have HM : Hid (max n 0 = n) := Lib.hid (by omega)
      go_enter Try.func59, Try.ntmps59
      go_wp2
      go_end0
      rw [HM.out]
      exact ⟨rfl, HU.out, (Ext.refl (fun k => k = g) w).setCell (p := ⟨g, 3, none⟩) (Or.inl rfl) _⟩
theorem roff_any (w : World) (Z : Nat → Prop) (g : Nat) (D : DS) (h : RefAt w Z g D) : Calls Try.prog 66 #[.pointer (some ⟨g, 0, none⟩)] w fun e w' => e = .returned (.bool D.off) ∧ Ext None_ w w' := by
  obtain ⟨b, c, A, c2, ⟨c0, c1, c3, c4, c5⟩, cf, _⟩ := h.cells
  clear h
  go_enter Try.func66, Try.ntmps66
  go_wp2
  go_ret
  exact ⟨rfl, Ext.refl _ _⟩
theorem rwaiting_any (w : World) (Z : Nat → Prop) (g : Nat) (D : DS) (h : RefAt w Z g D) : Calls Try.prog 67 #[.pointer (some ⟨g, 0, none⟩)] w fun e w' => e = .returned (.int .i64 D.wait.length) ∧ Ext None_ w w' := by
  obtain ⟨b, c, A, c2, ⟨c0, c1, c3, c4, c5⟩, cf, _⟩ := h.cells
  clear h
  go_enter Try.func67, Try.ntmps67
  go_wp2
  go_ret
  exact ⟨rfl, Ext.refl _ _⟩
end Go.Proofs.Ytakcdmmniaipeaa
