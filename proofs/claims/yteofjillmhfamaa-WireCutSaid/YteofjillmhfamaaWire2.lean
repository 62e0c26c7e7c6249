/- Package wire, walked: what a reader is asked. -/
import Derived.Test.YteofjillmhfamaaWire
import Derived.Lib.AppendStr
import Derived.Laws.BytesArg
set_option linter.unusedVariables false
set_option linter.unusedSimpArgs false
namespace Go.Proofs.Yteofjillmhfamaa
open Go.RowKit B

theorem good_any (fa fe : Int) (b : Bool) (w : World) (hb : (fe == 0) = b) : Calls Try.prog 28 #[.agg #[.int .i64 fa, .int .i64 fe]] w fun e w' => e = .returned (.bool b) ∧ Ext None_ w w' := by
  go_enter Try.func28, Try.ntmps28
  go_wp2
  go_ret
  exact ⟨by simp, (Ext.refl _ _).alloc _⟩
theorem err_any (fa fe : Int) (w : World) : Calls Try.prog 32 #[.agg #[.int .i64 fa, .int .i64 fe]] w fun e w' => e = .returned (.int .i64 fe) ∧ Ext None_ w w' := by
  go_enter Try.func32, Try.ntmps32
  go_wp2
  go_ret
  exact ⟨by simp, (Ext.refl _ _).alloc _⟩
theorem where_any (fa fe : Int) (w : World) : Calls Try.prog 30 #[.agg #[.int .i64 fa, .int .i64 fe]] w fun e w' => e = .returned (.int .i64 fa) ∧ Ext None_ w w' := by
  go_enter Try.func30, Try.ntmps30
  go_wp2
  go_ret
  exact ⟨by simp, (Ext.refl _ _).alloc _⟩
theorem feT {s : RS} (h : s.fe = 0) : (s.fe == 0) = true := by simp [h]
theorem feF {s : RS} (h : ¬ s.fe = 0) : (s.fe == 0) = false := by simp [h]
def OnlyG (g : Nat) : Nat → Prop := fun k => k = g

set_option maxRecDepth 100000 in
theorem count_any (g b : Nat) (l : List Int) (s : RS) (p : Nat) (most : Int) (w : World) (h : Rd w g b l s) (hp : p ≤ l.length) :
    Calls Try.prog 43 #[.pointer (some ⟨g, 0, none⟩), .int .i64 p, .int .i64 most] w fun e w' => e = .returned (.int .i64 (countR l p most s).1) ∧ Rd w' g b l (countR l p most s).2 ∧ Ext (fun k => k = g) w w' := by
  have hnum := num_any g b l s p w h hp
  clear h
  unfold countR
  generalize numR l p s = r at hnum ⊢
  obtain ⟨n, s1⟩ := r
  have HN := Lib.hid hnum
  clear hnum
  simp only
  by_cases hfe : s1.fe = 0
  · have HFE := Lib.hid hfe
    have hb := feT hfe
    clear hfe
    by_cases hc : n < 0 ∨ most < n
    · rw [if_pos ⟨HFE.out, hc⟩]
      by_cases hn : n < 0
      all_goals
        go_enter Try.func43, Try.ntmps43
        go_wp2_with (first
          | (go_at_call 44; refine HN.out.mono ?_; rintro e w1 ⟨rfl, hr1, hx1⟩; have HR1 := Lib.hid hr1; have HX1 := Lib.hid hx1; obtain ⟨A, c, ⟨c0, c1, c2, c3⟩, cf, _⟩ := hr1.cells; clear hr1 hx1)
          | (go_at_call 28; refine (good_any _ _ _ _ hb).mono ?_; rintro e w2 ⟨rfl, hx2⟩; have HR2 := Lib.hid (HR1.out.ext0 hx2); have HX2 := Lib.hid (HX1.out.trans0 hx2); clear hx2)
          | (go_at_call 45; refine (fail_any g b l _ p 2 _ HR2.out hp).mono ?_; rintro e w3 ⟨rfl, hr3, hx3⟩; have HR3 := Lib.hid hr3; have HX3 := Lib.hid hx3; clear hr3 hx3))
        go_ret
        exact ⟨rfl, HR3.out, HX2.out.trans HX3.out (fun _ _ a => a)⟩
    · rw [if_neg (fun a => hc a.2)]
      have hn1 : 0 ≤ n := by omega
      have hn2 : n ≤ most := by omega
      clear hc
      go_enter Try.func43, Try.ntmps43
      go_wp2_with (first
          | (go_at_call 44; refine HN.out.mono ?_; rintro e w1 ⟨rfl, hr1, hx1⟩; have HR1 := Lib.hid hr1; have HX1 := Lib.hid hx1; obtain ⟨A, c, ⟨c0, c1, c2, c3⟩, cf, _⟩ := hr1.cells; clear hr1 hx1)
          | (go_at_call 28; refine (good_any _ _ _ _ hb).mono ?_; rintro e w2 ⟨rfl, hx2⟩; have HR2 := Lib.hid (HR1.out.ext0 hx2); have HX2 := Lib.hid (HX1.out.trans0 hx2); clear hx2))
      go_ret
      exact ⟨rfl, HR2.out, HX2.out⟩
  · rw [if_neg (fun a => hfe a.1)]
    have hb := feF hfe
    clear hfe
    go_enter Try.func43, Try.ntmps43
    go_wp2_with (first
          | (go_at_call 44; refine HN.out.mono ?_; rintro e w1 ⟨rfl, hr1, hx1⟩; have HR1 := Lib.hid hr1; have HX1 := Lib.hid hx1; obtain ⟨A, c, ⟨c0, c1, c2, c3⟩, cf, _⟩ := hr1.cells; clear hr1 hx1)
          | (go_at_call 28; refine (good_any _ _ _ _ hb).mono ?_; rintro e w2 ⟨rfl, hx2⟩; have HR2 := Lib.hid (HR1.out.ext0 hx2); have HX2 := Lib.hid (HX1.out.trans0 hx2); clear hx2))
    go_ret
    exact ⟨rfl, HR2.out, HX2.out⟩

set_option maxRecDepth 100000 in
theorem Num_any (g b : Nat) (l : List Int) (s : RS) (w : World) (h : Rd w g b l s) :
    Calls Try.prog 35 #[.pointer (some ⟨g, 0, none⟩)] w fun e w' => e = .returned (.int .i64 (NumR l s).1) ∧ Rd w' g b l (NumR l s).2 ∧ Ext (fun k => k = g) w w' := by
  have hbd := h.bounds
  obtain ⟨hpos, hlen, hbyt⟩ := hbd
  have HBY := Lib.hid hbyt
  clear hbyt
  obtain ⟨A, c, ⟨c0, c1, c2, c3⟩, cf, _⟩ := h.cells
  have HR := Lib.hid h
  clear h
  unfold NumR
  by_cases hfe : s.fe = 0
  · rw [if_pos hfe]
    have hb := feT hfe
    clear hfe
    go_enter Try.func35, Try.ntmps35
    go_wp2_with (first
      | (go_at_call 28; refine (good_any _ _ _ _ hb).mono ?_; rintro e w1 ⟨rfl, hx1⟩; have hr1 := HR.out.ext0 hx1; have HR1 := Lib.hid hr1; have HX1 : Hid (Ext (fun k => k = g) w w1) := Lib.hid (hx1.mono (fun _ _ a => a.elim)); obtain ⟨A1, cc1, ⟨d0, d1, d2, d3⟩, df, dl, dr⟩ := hr1.cells; have DR := Lib.hid dr; clear hr1 hx1 dr)
      | (go_at_call 44; refine (num_any g b l s s.pos _ HR1.out hpos).mono ?_; rintro e w2 ⟨rfl, hr2, hx2⟩; have HR2 := Lib.hid hr2; have HX2 := Lib.hid hx2; clear hr2 hx2))
    go_ret
    exact ⟨rfl, HR2.out, HX1.out.trans HX2.out (fun _ _ a => a)⟩
  · rw [if_neg hfe]
    have hb := feF hfe
    clear hfe
    go_enter Try.func35, Try.ntmps35
    go_wp2_with (go_at_call 28; refine (good_any _ _ _ _ hb).mono ?_; rintro e w1 ⟨rfl, hx1⟩; have hr1 := HR.out.ext0 hx1; have HR1 := Lib.hid hr1; have HX1 : Hid (Ext (fun k => k = g) w w1) := Lib.hid (hx1.mono (fun _ _ a => a.elim)); obtain ⟨A1, cc1, ⟨d0, d1, d2, d3⟩, df, dl, dr⟩ := hr1.cells; have DR := Lib.hid dr; clear hr1 hx1 dr)
    go_ret
    exact ⟨rfl, HR1.out, HX1.out⟩

set_option maxRecDepth 100000 in
theorem Count_any (g b : Nat) (l : List Int) (s : RS) (most : Int) (w : World) (h : Rd w g b l s) :
    Calls Try.prog 37 #[.pointer (some ⟨g, 0, none⟩), .int .i64 most] w fun e w' => e = .returned (.int .i64 (CountR l most s).1) ∧ Rd w' g b l (CountR l most s).2 ∧ Ext (fun k => k = g) w w' := by
  have hbd := h.bounds
  obtain ⟨hpos, hlen, hbyt⟩ := hbd
  have HBY := Lib.hid hbyt
  clear hbyt
  obtain ⟨A, c, ⟨c0, c1, c2, c3⟩, cf, _⟩ := h.cells
  have HR := Lib.hid h
  clear h
  unfold CountR
  by_cases hfe : s.fe = 0
  · rw [if_pos hfe]
    have hb := feT hfe
    clear hfe
    go_enter Try.func37, Try.ntmps37
    go_wp2_with (first
      | (go_at_call 28; refine (good_any _ _ _ _ hb).mono ?_; rintro e w1 ⟨rfl, hx1⟩; have hr1 := HR.out.ext0 hx1; have HR1 := Lib.hid hr1; have HX1 : Hid (Ext (fun k => k = g) w w1) := Lib.hid (hx1.mono (fun _ _ a => a.elim)); obtain ⟨A1, cc1, ⟨d0, d1, d2, d3⟩, df, dl, dr⟩ := hr1.cells; have DR := Lib.hid dr; clear hr1 hx1 dr)
      | (go_at_call 43; refine (count_any g b l s s.pos most _ HR1.out hpos).mono ?_; rintro e w2 ⟨rfl, hr2, hx2⟩; have HR2 := Lib.hid hr2; have HX2 := Lib.hid hx2; clear hr2 hx2))
    go_ret
    exact ⟨rfl, HR2.out, HX1.out.trans HX2.out (fun _ _ a => a)⟩
  · rw [if_neg hfe]
    have hb := feF hfe
    clear hfe
    go_enter Try.func37, Try.ntmps37
    go_wp2_with (go_at_call 28; refine (good_any _ _ _ _ hb).mono ?_; rintro e w1 ⟨rfl, hx1⟩; have hr1 := HR.out.ext0 hx1; have HR1 := Lib.hid hr1; have HX1 : Hid (Ext (fun k => k = g) w w1) := Lib.hid (hx1.mono (fun _ _ a => a.elim)); obtain ⟨A1, cc1, ⟨d0, d1, d2, d3⟩, df, dl, dr⟩ := hr1.cells; have DR := Lib.hid dr; clear hr1 hx1 dr)
    go_ret
    exact ⟨rfl, HR1.out, HX1.out⟩

theorem FlagR_end {l : List Int} {s : RS} (hg : s.fe = 0) (h : l.drop s.pos = []) : FlagR l s = (false, ⟨s.pos, s.pos, 3⟩) := by unfold FlagR; rw [if_pos hg, h]
theorem FlagR_at {l : List Int} {s : RS} {x : Int} {r : List Int} (hg : s.fe = 0) (h : l.drop s.pos = x :: r) : FlagR l s = if 1 < x then (false, ⟨s.pos, s.pos, 4⟩) else (x == 1, ⟨s.pos + 1, s.fa, s.fe⟩) := by unfold FlagR; rw [if_pos hg, h]
theorem FlagR_bad {l : List Int} {s : RS} (hg : ¬ s.fe = 0) : FlagR l s = (false, s) := by unfold FlagR; rw [if_neg hg]
set_option maxRecDepth 100000 in
set_option maxHeartbeats 1000000 in
theorem Flag_any (g b : Nat) (l : List Int) (s : RS) (w : World) (h : Rd w g b l s) :
    Calls Try.prog 36 #[.pointer (some ⟨g, 0, none⟩)] w fun e w' => e = .returned (.bool (FlagR l s).1) ∧ Rd w' g b l (FlagR l s).2 ∧ Ext (fun k => k = g) w w' := by
  have hbd := h.bounds
  obtain ⟨hpos, hlen, hbyt⟩ := hbd
  have HBY := Lib.hid hbyt
  clear hbyt
  obtain ⟨A, c, ⟨c0, c1, c2, c3⟩, cf, _⟩ := h.cells
  have HR := Lib.hid h
  clear h
  by_cases hfe : s.fe = 0
  · have HFE := Lib.hid hfe
    have hb := feT hfe
    clear hfe
    by_cases hend : s.pos = l.length
    · rw [FlagR_end HFE.out (by rw [hend]; simp)]
      have hge : (l.length : Int) ≤ s.pos := by omega
      clear hend
      go_enter Try.func36, Try.ntmps36
      go_wp2_with (go_at_call 28; refine (good_any _ _ _ _ hb).mono ?_; rintro e w1 ⟨rfl, hx1⟩; have hr1 := HR.out.ext0 hx1; have HR1 := Lib.hid hr1; have HX1 : Hid (Ext (fun k => k = g) w w1) := Lib.hid (hx1.mono (fun _ _ a => a.elim)); obtain ⟨A1, cc1, ⟨d0, d1, d2, d3⟩, df, dl, dr⟩ := hr1.cells; have DR := Lib.hid dr; clear hr1 hx1 dr)
      go_quiet (fail)
      go_wp2_with (go_at_call 45; refine (fail_any g b l _ s.pos 3 _ (HR1.out.drewN _) hpos).mono ?_; rintro e w2 ⟨rfl, hr2, hx2⟩; have HR2 := Lib.hid hr2; have HX2 := Lib.hid hx2; clear hr2 hx2)
      go_ret
      exact ⟨rfl, HR2.out, (HX1.out.drewN _).trans HX2.out (fun _ _ a => a)⟩
    · have hlt : s.pos < l.length := by omega
      obtain ⟨x, hxe⟩ : ∃ x, x = l[s.pos] := ⟨_, rfl⟩
      have hx0 := HBY.out x (by rw [hxe]; exact List.getElem_mem _)
      have HD : Hid (l.drop s.pos = x :: l.drop (s.pos + 1)) := Lib.hid (by rw [hxe]; exact List.drop_eq_getElem_cons hlt)
      have HC : ∀ W A, Row W A (B8 l) → ∃ ad, A = some ad ∧ W.cell? (ad.add s.pos) = some (.int .u8 x) := fun W A hr => hr s.pos _ (by simp [B8, hxe])
      have HH := Lib.hid HC
      have HXE := Lib.hid hxe
      clear hxe HC
      obtain ⟨hx1, hx2⟩ := hx0
      rw [FlagR_at HFE.out HD.out]
      have HS : ∀ W, Rd W g b l s → Hid (Rd (W.setCell ⟨g, 3, none⟩ (.int .i64 ((s.pos : Int) + 1))) g b l ⟨s.pos + 1, s.fa, s.fe⟩) := fun W hr => by
        obtain ⟨A, c, h1, h2, h3, h4, h5, h6, h7, h8⟩ := hr
        have hx := (Ext.refl (fun k => k = g) W).setCell (p := ⟨g, 3, none⟩) (.inl rfl) (.int .i64 ((s.pos : Int) + 1))
        exact Lib.hid ⟨A, c, h1.set 3 _, h2, h3.ext hx (fun ad e' => by rw [h4 ad e']; exact h5.1), h4, ⟨h5.1, Nat.lt_of_lt_of_le h5.2 hx.size⟩, h6, by simp only; omega, h8⟩
      have HSS := Lib.hid HS
      clear HS
      by_cases h1x : 1 < x
      · rw [if_pos h1x]
        go_enter Try.func36, Try.ntmps36
        go_wp2_with (go_at_call 28; refine (good_any _ _ _ _ hb).mono ?_; rintro e w1 ⟨rfl, hx1⟩; have hr1 := HR.out.ext0 hx1; have HR1 := Lib.hid hr1; have HX1 : Hid (Ext (fun k => k = g) w w1) := Lib.hid (hx1.mono (fun _ _ a => a.elim)); obtain ⟨A1, cc1, ⟨d0, d1, d2, d3⟩, df, dl, dr⟩ := hr1.cells; have DR := Lib.hid dr; clear hr1 hx1 dr)
        obtain ⟨ad, rfl, hc⟩ := HH.out _ _ DR.out
        go_quiet (fail)
        go_wp2
        go_quiet (fail)
        go_wp2_with (go_at_call 45; refine (fail_any g b l _ s.pos 4 _ (HR1.out.drewN _) hpos).mono ?_; rintro e w2 ⟨rfl, hr2, hx2⟩; have HR2 := Lib.hid hr2; have HX2 := Lib.hid hx2; clear hr2 hx2)
        go_ret
        exact ⟨rfl, HR2.out, (HX1.out.drewN _).trans HX2.out (fun _ _ a => a)⟩
      · rw [if_neg h1x]
        have h1x' : x ≤ 1 := by omega
        clear h1x
        go_enter Try.func36, Try.ntmps36
        go_wp2_with (go_at_call 28; refine (good_any _ _ _ _ hb).mono ?_; rintro e w1 ⟨rfl, hx1⟩; have hr1 := HR.out.ext0 hx1; have HR1 := Lib.hid hr1; have HX1 : Hid (Ext (fun k => k = g) w w1) := Lib.hid (hx1.mono (fun _ _ a => a.elim)); obtain ⟨A1, cc1, ⟨d0, d1, d2, d3⟩, df, dl, dr⟩ := hr1.cells; have DR := Lib.hid dr; clear hr1 hx1 dr)
        obtain ⟨ad, rfl, hc⟩ := HH.out _ _ DR.out
        go_quiet (fail)
        go_wp2
        go_quiet (fail)
        go_wp2
        go_ret
        exact ⟨rfl, (HSS.out _ (HR1.out.drewN _)).out, (HX1.out.drewN _).setCell (p := ⟨g, 3, none⟩) (.inl rfl) _⟩
  · rw [FlagR_bad hfe]
    have hb := feF hfe
    clear hfe
    go_enter Try.func36, Try.ntmps36
    go_wp2_with (go_at_call 28; refine (good_any _ _ _ _ hb).mono ?_; rintro e w1 ⟨rfl, hx1⟩; have hr1 := HR.out.ext0 hx1; have HR1 := Lib.hid hr1; have HX1 : Hid (Ext (fun k => k = g) w w1) := Lib.hid (hx1.mono (fun _ _ a => a.elim)); obtain ⟨A1, cc1, ⟨d0, d1, d2, d3⟩, df, dl, dr⟩ := hr1.cells; have DR := Lib.hid dr; clear hr1 hx1 dr)
    go_ret
    exact ⟨rfl, HR1.out, HX1.out⟩
theorem Next_any (g b : Nat) (l : List Int) (s : RS) (w : World) (h : Rd w g b l s) :
    Calls Try.prog 29 #[.pointer (some ⟨g, 0, none⟩)] w fun e w' => e = .returned (.int .i64 s.pos) ∧ w = w' := by
  obtain ⟨A, c, ⟨c0, c1, c2, c3⟩, cf, _⟩ := h.cells
  clear h
  go_enter Try.func29, Try.ntmps29
  go_wp2
  go_ret
  exact ⟨rfl, rfl⟩
end Go.Proofs.Yteofjillmhfamaa
