/- drayref3, walked: the reference's reader. -/
import Derived.Test.YteofjillmhfamaaRef3b
import Derived.Lib.AppendStr
import Derived.Deep.RegionWith
import Derived.Laws.BytesArg
set_option linter.unusedVariables false
set_option linter.unusedSimpArgs false
namespace Go.Proofs.Yteofjillmhfamaa
open Go.RowKit B








set_option maxRecDepth 100000 in
set_option maxHeartbeats 1000000 in
theorem rCount_any (g b : Nat) (l : List Int) (s : RS) (most : Int) (w : World) (h : Rf w g b l s) :
    Calls Try.prog 50 #[.pointer (some ⟨g, 0, none⟩), .int .i64 most] w fun e w' => e = .returned (.int .i64 (CountR l most s).1) ∧ Rf w' g b l (CountR l most s).2 ∧ Ext (fun k => k = g) w w' := by
  have hbd := h.bounds
  obtain ⟨hpos, hlen, hbyt⟩ := hbd
  have HBY := Lib.hid hbyt
  obtain ⟨A, c, ⟨c0, c1, c2, c3⟩, cf, hcl, hrow⟩ := h.cells
  have HROW := Lib.hid hrow
  have HLT := Lib.hid h.lt
  have HR := Lib.hid h
  clear h hrow hbyt
  unfold CountR
  by_cases hfe : s.fe = 0
  · rw [if_pos hfe, countR_eq _ _ _ hfe]
    have hb := neT hfe
    clear hfe
    have hcnt := fun W (hr : Rf W g b l s) => rcount_any g b l s most W hr
    have hp := countF_pos l s.pos most hpos
    generalize countF l s.pos most = r at hcnt hp ⊢
    obtain ⟨n, to, e⟩ := r
    have HN := Lib.hid hcnt
    clear hcnt
    simp only at hp ⊢
    by_cases he : e = 0
    · rw [if_pos he]
      have hb2 := neT he
      clear he
      go_enter Try.func50, Try.ntmps50
      go_wp2_with (go_at_call 55; refine (HN.out _ HR.out).mono ?_; rintro e' w1 ⟨rfl, m1, rfl⟩)
      go_ret
      exact ⟨rfl, (HR.out.drewN _).setPos to _ rfl hp, ((Ext.refl (fun k => k = g) w).drewN _).setCell (p := ⟨g, 1, none⟩) (.inl rfl) _⟩
    · rw [if_neg he]
      have hb2 := neF he
      clear he
      go_enter Try.func50, Try.ntmps50
      go_wp2_with (first
        | (go_at_call 55; refine (HN.out _ HR.out).mono ?_; rintro e' w1 ⟨rfl, m1, rfl⟩)
        | (go_at_call 51; refine (wrong_any g b l s e _ (HR.out.drewN _)).mono ?_; rintro e w9 ⟨rfl, hr9, hx9⟩; have HR9 := Lib.hid hr9; have HX9 : Hid (Ext (fun k => k = g) w w9) := Lib.hid (((Ext.refl (fun k => k = g) w).drewN _).trans hx9 (fun _ _ a => a)); obtain ⟨A9, cc9, ⟨d0, d1, d2, d3⟩, df, _⟩ := hr9.cells; clear hr9 hx9))
      go_ret
      exact ⟨rfl, HR9.out, HX9.out⟩
  · rw [if_neg hfe]
    have hb := neF hfe
    clear hfe
    go_enter Try.func50, Try.ntmps50
    go_wp2
    go_ret
    exact ⟨rfl, HR.out, Ext.refl _ _⟩

set_option maxRecDepth 100000 in
set_option maxHeartbeats 1000000 in
theorem rFlag_any (g b : Nat) (l : List Int) (s : RS) (w : World) (h : Rf w g b l s) :
    Calls Try.prog 49 #[.pointer (some ⟨g, 0, none⟩)] w fun e w' => e = .returned (.bool (FlagR l s).1) ∧ Rf w' g b l (FlagR l s).2 ∧ Ext (fun k => k = g) w w' := by
  have hbd := h.bounds
  obtain ⟨hpos, hlen, hbyt⟩ := hbd
  have HBY := Lib.hid hbyt
  obtain ⟨A, c, ⟨c0, c1, c2, c3⟩, cf, hcl, hrow⟩ := h.cells
  have HROW := Lib.hid hrow
  have HLT := Lib.hid h.lt
  have HR := Lib.hid h
  clear h hrow hbyt
  by_cases hfe : s.fe = 0
  · have HFE := Lib.hid hfe
    have hb := neT hfe
    clear hfe
    by_cases hend : s.pos = l.length
    · rw [FlagR_end HFE.out (by rw [hend]; simp)]
      have hge : (l.length : Int) ≤ s.pos := by omega
      clear hend
      go_enter Try.func49, Try.ntmps49
      go_wp2
      go_quiet (fail)
      go_wp2_with (go_at_call 51; refine (wrong_any g b l s 3 _ (HR.out.drewN _)).mono ?_; rintro e w9 ⟨rfl, hr9, hx9⟩; have HR9 := Lib.hid hr9; have HX9 : Hid (Ext (fun k => k = g) w w9) := Lib.hid (((Ext.refl (fun k => k = g) w).drewN _).trans hx9 (fun _ _ a => a)); obtain ⟨A9, cc9, ⟨d0, d1, d2, d3⟩, df, _⟩ := hr9.cells; clear hr9 hx9)
      go_ret
      exact ⟨rfl, HR9.out, HX9.out⟩
    · have hlt : s.pos < l.length := by omega
      obtain ⟨x, hxe⟩ : ∃ x, x = l[s.pos] := ⟨_, rfl⟩
      have hx0 := HBY.out x (by rw [hxe]; exact List.getElem_mem _)
      have HD : Hid (l.drop s.pos = x :: l.drop (s.pos + 1)) := Lib.hid (by rw [hxe]; exact List.drop_eq_getElem_cons hlt)
      obtain ⟨ad, rfl, hc⟩ := HROW.out s.pos (.int .u8 x) (by simp [B8, hxe])
      clear hxe hend
      obtain ⟨hx1, hx2⟩ := hx0
      rw [FlagR_at HFE.out HD.out]
      by_cases h1x : 1 < x
      · rw [if_pos h1x]
        go_enter Try.func49, Try.ntmps49
        go_wp2
        go_quiet (fail)
        go_wp2
        go_quiet (fail)
        go_wp2_with (go_at_call 51; refine (wrong_any g b l s 4 _ (HR.out.drewN _)).mono ?_; rintro e w9 ⟨rfl, hr9, hx9⟩; have HR9 := Lib.hid hr9; have HX9 : Hid (Ext (fun k => k = g) w w9) := Lib.hid (((Ext.refl (fun k => k = g) w).drewN _).trans hx9 (fun _ _ a => a)); obtain ⟨A9, cc9, ⟨d0, d1, d2, d3⟩, df, _⟩ := hr9.cells; clear hr9 hx9)
        go_ret
        exact ⟨rfl, HR9.out, HX9.out⟩
      · rw [if_neg h1x]
        have h1x' : x ≤ 1 := by omega
        clear h1x
        go_enter Try.func49, Try.ntmps49
        go_wp2
        go_quiet (fail)
        go_wp2
        go_quiet (fail)
        go_wp2
        go_ret
        exact ⟨rfl, (HR.out.drewN _).setPos (s.pos + 1) _ (by omega) (by omega), ((Ext.refl (fun k => k = g) w).drewN _).setCell (p := ⟨g, 1, none⟩) (.inl rfl) _⟩
  · rw [FlagR_bad hfe]
    have hb := neF hfe
    clear hfe
    go_enter Try.func49, Try.ntmps49
    go_wp2
    go_ret
    exact ⟨rfl, HR.out, Ext.refl _ _⟩

set_option maxRecDepth 100000 in
set_option maxHeartbeats 1000000 in
theorem rEnd_any (g b : Nat) (l : List Int) (s : RS) (w : World) (h : Rf w g b l s) :
    Calls Try.prog 26 #[.pointer (some ⟨g, 0, none⟩)] w fun e w' => e = .returned (.int .i64 (EndR l s).fe) ∧ Rf w' g b l (EndR l s) ∧ Ext (fun k => k = g) w w' := by
  have hbd := h.bounds
  obtain ⟨hpos, hlen, hbyt⟩ := hbd
  have HBY := Lib.hid hbyt
  obtain ⟨A, c, ⟨c0, c1, c2, c3⟩, cf, hcl, hrow⟩ := h.cells
  have HROW := Lib.hid hrow
  have HLT := Lib.hid h.lt
  have HR := Lib.hid h
  clear h hrow hbyt
  unfold EndR
  by_cases hfe : s.fe = 0
  · have HFE := Lib.hid hfe
    have hb := eqT hfe
    clear hfe
    by_cases hlt : s.pos < l.length
    · rw [if_pos ⟨HFE.out, hlt⟩]
      go_enter Try.func26, Try.ntmps26
      go_wp2
      go_quiet (fail)
      go_wp2_with (go_at_call 51; refine (wrong_any g b l s 5 _ (HR.out.drewN _)).mono ?_; rintro e w9 ⟨rfl, hr9, hx9⟩; have HR9 := Lib.hid hr9; have HX9 : Hid (Ext (fun k => k = g) w w9) := Lib.hid (((Ext.refl (fun k => k = g) w).drewN _).trans hx9 (fun _ _ a => a)); obtain ⟨A9, cc9, ⟨d0, d1, d2, d3⟩, df, _⟩ := hr9.cells; clear hr9 hx9)
      go_ret
      exact ⟨rfl, HR9.out, HX9.out⟩
    · rw [if_neg (fun a => hlt a.2)]
      have hge : l.length ≤ s.pos := by omega
      clear hlt
      go_enter Try.func26, Try.ntmps26
      go_wp2
      go_quiet (fail)
      go_wp2
      go_ret
      exact ⟨rfl, HR.out.drewN _, ((Ext.refl (fun k => k = g) w).drewN _)⟩
  · rw [if_neg (fun a => hfe a.1)]
    have hb := eqF hfe
    clear hfe
    go_enter Try.func26, Try.ntmps26
    go_wp2
    go_quiet (fail)
    go_wp2
    go_ret
    exact ⟨rfl, HR.out.drewN _, ((Ext.refl (fun k => k = g) w).drewN _)⟩

set_option maxRecDepth 100000 in
set_option maxHeartbeats 2000000 in
theorem rText_any (g b : Nat) (l : List Int) (s : RS) (most : Int) (w : World) (h : Rf w g b l s) :
    Calls Try.prog 48 #[.pointer (some ⟨g, 0, none⟩), .int .i64 most] w fun e w' => e = .returned (.string (strOfNums (TextR l most s).1)) ∧ Rf w' g b l (TextR l most s).2 ∧ Ext (fun k => k = g) w w' := by
  have hbd := h.bounds
  obtain ⟨hpos, hlen, hbyt⟩ := hbd
  have HBY := Lib.hid hbyt
  obtain ⟨A, c, ⟨c0, c1, c2, c3⟩, cf, hcl, hrow⟩ := h.cells
  have HROW := Lib.hid hrow
  have HLT := Lib.hid h.lt
  have HR := Lib.hid h
  clear h hrow hbyt
  have hnil : strOfNums [] = ⟨#[]⟩ := rfl
  unfold TextR
  by_cases hfe : s.fe = 0
  · rw [if_pos hfe]
    have hcI := (countR_ok l s.pos most s)
    rw [countR_eq _ _ _ hfe] at hcI ⊢
    have HFE := Lib.hid hfe
    have hb := neT hfe
    clear hfe
    have hcnt := fun W (hr : Rf W g b l s) => rcount_any g b l s most W hr
    have hp := countF_pos l s.pos most hpos
    generalize countF l s.pos most = r at hcnt hp hcI ⊢
    obtain ⟨n, to, e⟩ := r
    have HN := Lib.hid hcnt
    clear hcnt
    simp only at hp hcI ⊢
    by_cases he : e = 0
    · rw [if_pos he] at hcI ⊢
      simp only at hcI ⊢
      rw [if_pos HFE.out]
      have hn0 := (hcI HFE.out).1
      clear hcI
      have hb2 := neT he
      have hb3 := eqT he
      clear he
      by_cases hlong : (l.length : Int) - to < n
      · rw [if_pos hlong, hnil]
        go_enter Try.func48, Try.ntmps48
        go_wp2_with (first
          | (go_at_call 55; refine (HN.out _ HR.out).mono ?_; rintro e' w1 ⟨rfl, m1, rfl⟩)
          | (go_at_call 51; refine (wrong_any g b l s 3 _ (HR.out.drewN _)).mono ?_; rintro e w9 ⟨rfl, hr9, hx9⟩; have HR9 := Lib.hid hr9; have HX9 : Hid (Ext (fun k => k = g) w w9) := Lib.hid (((Ext.refl (fun k => k = g) w).drewN _).trans hx9 (fun _ _ a => a)); obtain ⟨A9, cc9, ⟨d0, d1, d2, d3⟩, df, _⟩ := hr9.cells; clear hr9 hx9))
        go_ret
        exact ⟨rfl, HR9.out, HX9.out⟩
      · rw [if_neg hlong]
        have hle : n ≤ (l.length : Int) - to := by omega
        clear hlong
        obtain ⟨m, rfl⟩ := Int.eq_ofNat_of_zero_le hn0
        have hfit : to + m ≤ l.length := by omega
        simp only [Int.toNat_natCast]
        obtain ⟨T, hT⟩ : ∃ T, T = (l.drop to).take m := ⟨_, rfl⟩
        have hTl : T.length = m := by rw [hT, List.length_take, List.length_drop]; omega
        have HT2 : Hid (((B8 l).take ((to + m) * 1)).drop (to * 1) = B8 T) := Lib.hid (by
          rw [hT, Nat.mul_one, Nat.mul_one, List.drop_take, show to + m - to = m by omega]; simp [B8, List.map_take, List.map_drop])
        rw [← hT]
        have HTL := Lib.hid hTl
        clear hT hTl
        obtain ⟨A', hA', hcut⟩ := cut_lh (P := Try.prog) 23 5 1 Try.underlying23 infoU8 A l.length c (to : Int) ((to : Int) + m) (by omega) (by omega) (by omega)
        have hrow : Row w A' (B8 T) := by
          have hA2 : A' = if c = to then A else A.map (·.add (to * 1)) := by rw [hA', Int.toNat_natCast]
          have := cut_row (hi := to + m) HROW.out hA2 (by rw [B8_length]; omega)
          rwa [HT2.out] at this
        have HS : ∀ k, Hid (Ext (fun k => k = g) w ((w.drewN k).setCell ⟨g, 1, none⟩ (.int .i64 ((to : Int) + m)))) := fun k => Lib.hid (((Ext.refl (fun k => k = g) w).drewN _).setCell (p := ⟨g, 1, none⟩) (.inl rfl) _)
        have hblk : ∀ ad, A' = some ad → ad.block ≠ g := fun ad e => by
          obtain ⟨ad0, h1, h2⟩ := cut_block hA' ad e
          obtain ⟨A0, c0', h3, h4, h5, h6, h7, _⟩ := HR.out
          have h8 := h3.cell 0
          rw [c0] at h8
          simp at h8
          rw [h2, h6 ad0 (h8.1 ▸ h1)]
          exact h7.1
        have hconv : ∀ k, (convert 23 9 (.slice A' m (c - to))).run Try.prog ((w.drewN k).setCell ⟨g, 1, none⟩ (.int .i64 ((to : Int) + m))) = .ok (.string (strOfNums T)) ((w.drewN k).setCell ⟨g, 1, none⟩ (.int .i64 ((to : Int) + m))) := fun k => by
          have := conv_string (src := 23) (dst := 9) (e := 5) Try.underlying23 Try.underlying5 Try.underlying9 (c := c - to) (hrow.ext (HS k).out hblk)
          rwa [HTL.out] at this
        have hcut2 : ∀ W : World, (Instr.slice 23 (.slice A l.length c) (some (.int .i64 (to : Int))) (some (.int .i64 ((to : Int) + m))) none).run Try.prog W = .ok (.slice A' m (c - to)) W := fun W => by
          rw [hcut W]
          congr 2
          omega
        clear hcut hA' hrow hblk
        go_enter Try.func48, Try.ntmps48
        go_wp2_with (go_at_call 55; refine (HN.out _ HR.out).mono ?_; rintro e' w1 ⟨rfl, m1, rfl⟩)
        go_ret
        exact ⟨rfl, (HR.out.drewN _).setPos (to + m) _ (by omega) hfit, (HS _).out⟩
    · rw [if_neg he]
      simp only
      rw [if_neg he, hnil]
      have hb2 := neF he
      have hb3 := eqF he
      clear he hcI
      go_enter Try.func48, Try.ntmps48
      go_wp2_with (first
        | (go_at_call 55; refine (HN.out _ HR.out).mono ?_; rintro e' w1 ⟨rfl, m1, rfl⟩)
        | (go_at_call 51; refine (wrong_any g b l s e _ (HR.out.drewN _)).mono ?_; rintro e w9 ⟨rfl, hr9, hx9⟩; have HR9 := Lib.hid hr9; have HX9 : Hid (Ext (fun k => k = g) w w9) := Lib.hid (((Ext.refl (fun k => k = g) w).drewN _).trans hx9 (fun _ _ a => a)); obtain ⟨A9, cc9, ⟨d0, d1, d2, d3⟩, df, _⟩ := hr9.cells; clear hr9 hx9))
      go_ret
      exact ⟨rfl, HR9.out, HX9.out⟩
  · rw [if_neg hfe, hnil]
    have hb := neF hfe
    clear hfe
    go_enter Try.func48, Try.ntmps48
    go_wp2
    go_ret
    exact ⟨rfl, HR.out, Ext.refl _ _⟩
end Go.Proofs.Yteofjillmhfamaa
