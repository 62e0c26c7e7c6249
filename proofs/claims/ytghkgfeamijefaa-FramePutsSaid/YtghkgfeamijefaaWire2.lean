/- Package wire, walked: what a reader is asked. -/
import Derived.Test.YtghkgfeamijefaaWire
import Derived.Lib.AppendStr
import Derived.Laws.BytesArg
set_option linter.unusedVariables false
set_option linter.unusedSimpArgs false
namespace Go.Proofs.Ytghkgfeamijefaa
open Go.RowKit B

theorem good_any (fa fe : Int) (b : Bool) (w : World) (hb : (fe == 0) = b) : Calls Try.prog 89 #[.agg #[.int .i64 fa, .int .i64 fe]] w fun e w' => e = .returned (.bool b) ∧ Ext None_ w w' := by
  go_enter Try.func89, Try.ntmps89
  go_wp2
  go_ret
  exact ⟨by simp, (Ext.refl _ _).alloc _⟩
theorem feT {s : RS} (h : s.fe = 0) : (s.fe == 0) = true := by simp [h]
theorem feF {s : RS} (h : ¬ s.fe = 0) : (s.fe == 0) = false := by simp [h]
def OnlyG (g : Nat) : Nat → Prop := fun k => k = g

set_option maxRecDepth 100000 in
theorem Num_any (g b : Nat) (l : List Int) (s : RS) (w : World) (h : Rd w g b l s) :
    Calls Try.prog 78 #[.pointer (some ⟨g, 0, none⟩)] w fun e w' => e = .returned (.int .i64 (NumR l s).1) ∧ Rd w' g b l (NumR l s).2 ∧ Ext (fun k => k = g) w w' := by
  have hbd := h.bounds
  obtain ⟨hpos, hlen, hbyt⟩ := hbd
  have HBY := Lib.hid hbyt
  clear hbyt
  obtain ⟨A, c, ⟨c0, c1, c2, c3⟩, cf, _⟩ := h.cells
  have HR := Lib.hid h
  clear h
  unfold NumR
  by_cases hfe : s.fe = 0
  · rw [if_pos hfe]
    have hb := feT hfe
    clear hfe
    go_enter Try.func78, Try.ntmps78
    go_wp2_with (first
      | (go_at_call 89; refine (good_any _ _ _ _ hb).mono ?_; rintro e w1 ⟨rfl, hx1⟩; have hr1 := HR.out.ext0 hx1; have HR1 := Lib.hid hr1; have HX1 : Hid (Ext (fun k => k = g) w w1) := Lib.hid (hx1.mono (fun _ _ a => a.elim)); obtain ⟨A1, cc1, ⟨d0, d1, d2, d3⟩, df, dl, dr⟩ := hr1.cells; have DR := Lib.hid dr; clear hr1 hx1 dr)
      | (go_at_call 90; refine (num_any g b l s s.pos _ HR1.out hpos).mono ?_; rintro e w2 ⟨rfl, hr2, hx2⟩; have HR2 := Lib.hid hr2; have HX2 := Lib.hid hx2; clear hr2 hx2))
    go_ret
    exact ⟨rfl, HR2.out, HX1.out.trans HX2.out (fun _ _ a => a)⟩
  · rw [if_neg hfe]
    have hb := feF hfe
    clear hfe
    go_enter Try.func78, Try.ntmps78
    go_wp2_with (go_at_call 89; refine (good_any _ _ _ _ hb).mono ?_; rintro e w1 ⟨rfl, hx1⟩; have hr1 := HR.out.ext0 hx1; have HR1 := Lib.hid hr1; have HX1 : Hid (Ext (fun k => k = g) w w1) := Lib.hid (hx1.mono (fun _ _ a => a.elim)); obtain ⟨A1, cc1, ⟨d0, d1, d2, d3⟩, df, dl, dr⟩ := hr1.cells; have DR := Lib.hid dr; clear hr1 hx1 dr)
    go_ret
    exact ⟨rfl, HR1.out, HX1.out⟩

end Go.Proofs.Ytghkgfeamijefaa
