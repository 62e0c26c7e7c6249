/- Chapter 3's statements, walked: two readers side by side. -/
import Derived.Test.YteofjillmhfamaaWRuns
set_option linter.unusedVariables false
set_option linter.unusedSimpArgs false
namespace Go.Proofs.Yteofjillmhfamaa
open Go.RowKit B
theorem x0 (w : World) (o : Obj) : Ext None_ w (w.alloc o) := (Ext.refl _ _).alloc _
set_option maxRecDepth 100000 in
set_option maxHeartbeats 4000000 in
theorem sameR_any (g b g' b' : Nat) (l : List Int) (s : RS) (w : World) (h : Rd w g b l s) (h' : Rf w g' b' l s) :
    Calls Try.prog 24 #[.pointer (some ⟨g, 0, none⟩), .pointer (some ⟨g', 0, none⟩)] w fun e w' => e = .returned (.bool true) ∧ Ext None_ w w' := by
  obtain ⟨A, c, ⟨c0, c1, c2, c3⟩, cf, _⟩ := h.cells
  obtain ⟨A', c', ⟨d0, d1, d2, d3⟩, df, _⟩ := h'.cells
  have HR := Lib.hid h
  clear h h'
  have k1 : ∀ p : InC (Ext None_ w), p.W.cell? ⟨g, 0, none⟩ = some (.int .i64 s.fa) ∧ p.W.cell? ⟨g, 1, none⟩ = some (.int .i64 s.fe) ∧ p.W.cell? ⟨g', 1, none⟩ = some (.int .i64 s.pos) ∧ p.W.cell? ⟨g', 2, none⟩ = some (.int .i64 s.fa) ∧ p.W.cell? ⟨g', 3, none⟩ = some (.int .i64 s.fe) := fun p => ⟨p.h.cell c0 (fun a => a), p.h.cell c1 (fun a => a), p.h.cell d1 (fun a => a), p.h.cell d2 (fun a => a), p.h.cell d3 (fun a => a)⟩
  have k2 : ∀ p : InC (Ext None_ w), Rd p.W g b l s := fun p => HR.out.ext0 p.h
  have K2 := Lib.hid k2
  have hne : Nonempty (InC (Ext None_ w)) := ⟨⟨w, Ext.refl _ _⟩⟩
  clear k2
  by_cases hfe : s.fe = 0
  all_goals
    first | have hb := eqT hfe | have hb := eqF hfe
    clear hfe
    go_enter Try.func24, Try.ntmps24
    go_wp2
    refine wp_region_in (C := Ext None_ w) (by kernel_rfl) (by kernel_rfl) (Ext.refl _ _).drew ?_
    repeat (first
      | go_big_quiet_step (first
        | (go_at_call 28; exact Calls.in_of (good_any _ _ _ _ hb) (fun _ _ h1 h2 => h1.trans0 h2))
        | (go_at_call 32; exact Calls.in_of (err_any _ _ _) (fun _ _ h1 h2 => h1.trans0 h2))
        | (go_at_call 30; exact Calls.in_of (where_any _ _ _) (fun _ _ h1 h2 => h1.trans0 h2))
        | (go_at_call 29; exact Calls.in_same (Next_any g b l s _ (K2.out _))))
      | quiet_step (first
        | (go_at_call 28; exact Calls.in_of (good_any _ _ _ _ hb) (fun _ _ h1 h2 => h1.trans0 h2))
        | (go_at_call 32; exact Calls.in_of (err_any _ _ _) (fun _ _ h1 h2 => h1.trans0 h2))
        | (go_at_call 30; exact Calls.in_of (where_any _ _ _) (fun _ _ h1 h2 => h1.trans0 h2))
        | (go_at_call 29; exact Calls.in_same (Next_any g b l s _ (K2.out _)))))
    refine wpQuiet_nil ?_
    rintro _ ⟨p, rfl⟩
    go_wp2
    go_ret
    exact ⟨rfl, p.h⟩

/-- What an item is, by value. -/
structure Item where
  kind : Int
  n : Int
  most : Int
  l : List Int
  s : ByteArray
  f : Bool
def Item.val (x : Item) (A : Option Addr) (c : Nat) : Value := .agg #[.int .i64 x.kind, .int .i64 x.n, .int .i64 x.most, .slice A x.l.length c, .string x.s, .bool x.f]
def Both (w : World) (g b g' b' : Nat) (l : List Int) (s : RS) : Prop := Rd w g b l s ∧ Rf w g' b' l s ∧ g ≠ g' ∧ g ≠ b' ∧ g' ≠ b
def GG (g g' : Nat) : Nat → Prop := fun k => k = g ∨ k = g'

theorem Both.step {w w2 : World} {g b g' b' : Nat} {l : List Int} {s' : RS} (h1 : Rd w2 g b l s') (h2 : Rf w2 g' b' l s') (hn : g ≠ g' ∧ g ≠ b' ∧ g' ≠ b) (hx : Ext (GG g g') w w2) : ∃ s', Both w2 g b g' b' l s' ∧ Ext (GG g g') w w2 := ⟨s', ⟨h1, h2, hn⟩, hx⟩
end Go.Proofs.Yteofjillmhfamaa
