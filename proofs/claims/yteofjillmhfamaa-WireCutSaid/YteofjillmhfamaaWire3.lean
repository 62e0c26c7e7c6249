/- Package wire, walked: the reader's end, its lists and texts. -/
import Derived.Test.YteofjillmhfamaaWire2
import Derived.Lib.AppendStr
import Derived.Deep.RegionWith
import Derived.Laws.BytesArg
set_option linter.unusedVariables false
set_option linter.unusedSimpArgs false
namespace Go.Proofs.Yteofjillmhfamaa
open Go.RowKit B


set_option maxRecDepth 100000 in
set_option maxHeartbeats 1000000 in
theorem End_any (g b : Nat) (l : List Int) (s : RS) (w : World) (h : Rd w g b l s) :
    Calls Try.prog 21 #[.pointer (some ⟨g, 0, none⟩)] w fun e w' => e = .returned (.int .i64 (EndR l s).fe) ∧ Rd w' g b l (EndR l s) ∧ Ext (fun k => k = g) w w' := by
  have hbd := h.bounds
  obtain ⟨hpos, hlen, hbyt⟩ := hbd
  have HBY := Lib.hid hbyt
  clear hbyt
  obtain ⟨A, c, ⟨c0, c1, c2, c3⟩, cf, _⟩ := h.cells
  have HR := Lib.hid h
  clear h
  unfold EndR
  by_cases hfe : s.fe = 0
  · have HFE := Lib.hid hfe
    have hb := feT hfe
    clear hfe
    by_cases hlt : s.pos < l.length
    · rw [if_pos ⟨HFE.out, hlt⟩]
      go_enter Try.func21, Try.ntmps21
      go_wp2
      go_region_held3 (fun W => (W.cell? ⟨g, 0, none⟩ = some (.int .i64 s.fa) ∧ W.cell? ⟨g, 1, none⟩ = some (.int .i64 s.fe) ∧ W.cell? ⟨g, 2, none⟩ = some (.slice A l.length c) ∧ W.cell? ⟨g, 3, none⟩ = some (.int .i64 s.pos))) (first | assumption | (simp [*]; done)) (first | (go_at_call 28; refine (good_any _ _ _ _ hb).mono ?_; rintro e w1 ⟨rfl, hx1⟩; have HR1 := Lib.hid ((HR.out.ext0 (Ext.refl _ _).drew).ext0 hx1); have HX1 : Hid (Ext (fun k => k = g) w w1) := Lib.hid ((Ext.refl _ _).drew.trans0 hx1); have hcc := And.intro (hx1.cell (w := w.drew) c0 (fun a => a)) (And.intro (hx1.cell (w := w.drew) c1 (fun a => a)) (And.intro (hx1.cell (w := w.drew) c2 (fun a => a)) (hx1.cell (w := w.drew) c3 (fun a => a)))); clear hx1))
      go_wp2_with (go_at_call 45; refine (fail_any g b l _ s.pos 5 _ HR1.out hpos).mono ?_; rintro e w2 ⟨rfl, hr2, hx2⟩; have HR2 := Lib.hid hr2; have HX2 := Lib.hid hx2; obtain ⟨A2, cc2, ⟨d0, d1, d2, d3⟩, df, dl, dr⟩ := hr2.cells; clear hr2 hx2 dr)
      go_ret
      exact ⟨rfl, HR2.out, HX1.out.trans HX2.out (fun _ _ a => a)⟩
    · rw [if_neg (fun a => hlt a.2)]
      have hge : l.length ≤ s.pos := by omega
      clear hlt
      go_enter Try.func21, Try.ntmps21
      go_wp2
      go_region_held3 (fun W => (W.cell? ⟨g, 0, none⟩ = some (.int .i64 s.fa) ∧ W.cell? ⟨g, 1, none⟩ = some (.int .i64 s.fe) ∧ W.cell? ⟨g, 2, none⟩ = some (.slice A l.length c) ∧ W.cell? ⟨g, 3, none⟩ = some (.int .i64 s.pos))) (first | assumption | (simp [*]; done)) (first | (go_at_call 28; refine (good_any _ _ _ _ hb).mono ?_; rintro e w1 ⟨rfl, hx1⟩; have HR1 := Lib.hid ((HR.out.ext0 (Ext.refl _ _).drew).ext0 hx1); have HX1 : Hid (Ext (fun k => k = g) w w1) := Lib.hid ((Ext.refl _ _).drew.trans0 hx1); have hcc := And.intro (hx1.cell (w := w.drew) c0 (fun a => a)) (And.intro (hx1.cell (w := w.drew) c1 (fun a => a)) (And.intro (hx1.cell (w := w.drew) c2 (fun a => a)) (hx1.cell (w := w.drew) c3 (fun a => a)))); clear hx1))
      obtain ⟨e0, e1, e2, e3⟩ := hcc
      go_wp2
      go_ret
      exact ⟨rfl, HR1.out, HX1.out⟩
  · rw [if_neg (fun a => hfe a.1)]
    have hb := feF hfe
    clear hfe
    go_enter Try.func21, Try.ntmps21
    go_wp2
    have k1 : ∀ p : InC (Ext None_ w), p.W.cell? ⟨g, 0, none⟩ = some (.int .i64 s.fa) ∧ p.W.cell? ⟨g, 1, none⟩ = some (.int .i64 s.fe) := fun p => ⟨p.h.cell c0 (fun a => a), p.h.cell c1 (fun a => a)⟩
    have hne : Nonempty (InC (Ext None_ w)) := ⟨⟨w, Ext.refl _ _⟩⟩
    refine wp_region_in (C := Ext None_ w) (by kernel_rfl) (by kernel_rfl) (Ext.refl _ _).drew ?_
    repeat (first | go_big_quiet_step ((go_at_call 28; exact Calls.in_of (good_any _ _ _ _ hb) (fun _ _ h1 h2 => h1.trans0 h2))) | quiet_step ((go_at_call 28; exact Calls.in_of (good_any _ _ _ _ hb) (fun _ _ h1 h2 => h1.trans0 h2))))
    refine wpQuiet_nil ?_
    rintro _ ⟨p, rfl⟩
    have HR1 := Lib.hid (HR.out.ext0 p.h)
    have HX1 : Hid (Ext (fun k => k = g) w p.W) := Lib.hid (p.h.mono (fun _ _ a => a.elim))
    have hcc := k1 p
    obtain ⟨e0, e1⟩ := hcc
    go_wp2
    go_ret
    exact ⟨rfl, HR1.out, HX1.out⟩
end Go.Proofs.Yteofjillmhfamaa
