/- drayref3, walked: the reference's reader. -/
import Derived.Test.YteofjillmhfamaaRef3
import Derived.Lib.AppendStr
import Derived.Deep.RegionWith
import Derived.Laws.BytesArg
set_option linter.unusedVariables false
set_option linter.unusedSimpArgs false
namespace Go.Proofs.Yteofjillmhfamaa
open Go.RowKit B







def Rf (w : World) (g b : Nat) (l : List Int) (s : RS) : Prop :=
  ∃ A c, Blk w g #[.slice A l.length c, .int .i64 s.pos, .int .i64 s.fa, .int .i64 s.fe] 65 ∧ l.length ≤ c ∧ Row w A (B8 l) ∧ (∀ ad, A = some ad → ad.block = b) ∧ (b ≠ g ∧ b < w.heap.size) ∧ Byt l ∧ s.pos ≤ l.length ∧ l.length ≤ 225000000000000
theorem Rf.ext {S : Nat → Prop} {w w1 : World} {g b : Nat} {l : List Int} {s : RS} (h : Rf w g b l s) (he : Ext S w w1) (hg : ¬ S g) (hb : ¬ S b) : Rf w1 g b l s := by
  obtain ⟨A, c, h1, h2, h3, h4, h5, h6⟩ := h
  exact ⟨A, c, h1.ext he hg, h2, h3.ext he (fun ad e => by rw [h4 ad e]; exact hb), h4, ⟨h5.1, Nat.lt_of_lt_of_le h5.2 he.size⟩, h6⟩
theorem Rf.ext0 {w w1 : World} {g b : Nat} {l : List Int} {s : RS} (h : Rf w g b l s) (he : Ext None_ w w1) : Rf w1 g b l s := h.ext he (fun a => a) (fun a => a)
theorem Rf.drewN {w : World} {g b : Nat} {l : List Int} {s : RS} (h : Rf w g b l s) (n : Nat) : Rf (w.drewN n) g b l s := h.ext0 ((Ext.refl _ _).drewN n)
theorem Rf.cells {w : World} {g b : Nat} {l : List Int} {s : RS} (h : Rf w g b l s) : ∃ A c, (w.cell? ⟨g, 0, none⟩ = some (.slice A l.length c) ∧ w.cell? ⟨g, 1, none⟩ = some (.int .i64 s.pos) ∧ w.cell? ⟨g, 2, none⟩ = some (.int .i64 s.fa) ∧ w.cell? ⟨g, 3, none⟩ = some (.int .i64 s.fe)) ∧ (∀ i, w.frozen? ⟨g, i, none⟩ = false) ∧ l.length ≤ c ∧ Row w A (B8 l) := by
  obtain ⟨A, c, h1, h2, h3, _⟩ := h
  exact ⟨A, c, ⟨h1.cell 0, h1.cell 1, h1.cell 2, h1.cell 3⟩, h1.frozen, h2, h3⟩
theorem Rf.lt {w : World} {g b : Nat} {l : List Int} {s : RS} (h : Rf w g b l s) : g < w.heap.size ∧ b < w.heap.size ∧ b ≠ g := by
  obtain ⟨A, c, h1, _, _, _, h5, _⟩ := h
  exact ⟨h1.lt, h5.2, h5.1⟩
theorem Rf.bounds {w : World} {g b : Nat} {l : List Int} {s : RS} (h : Rf w g b l s) : s.pos ≤ l.length ∧ l.length ≤ 225000000000000 ∧ Byt l := by
  obtain ⟨A, c, _, _, _, _, _, h6, h7, h8⟩ := h
  exact ⟨h7, h8, h6⟩
theorem Rf.setPos {w : World} {g b : Nat} {l : List Int} {s : RS} (h : Rf w g b l s) (p : Nat) (x : Int) (hx : x = p) (hp : p ≤ l.length) : Rf (w.setCell ⟨g, 1, none⟩ (.int .i64 x)) g b l ⟨p, s.fa, s.fe⟩ := by
  subst hx
  obtain ⟨A, c, h1, h2, h3, h4, h5, h6, h7, h8⟩ := h
  have hx := (Ext.refl (fun k => k = g) w).setCell (p := ⟨g, 1, none⟩) (.inl rfl) (.int .i64 (p : Int))
  exact ⟨A, c, h1.set 1 _, h2, h3.ext hx (fun ad e' => by rw [h4 ad e']; exact h5.1), h4, ⟨h5.1, Nat.lt_of_lt_of_le h5.2 hx.size⟩, h6, hp, h8⟩
theorem wrong_any (g b : Nat) (l : List Int) (s : RS) (e : Int) (w : World) (h : Rf w g b l s) :
    Calls Try.prog 51 #[.pointer (some ⟨g, 0, none⟩), .int .i64 e] w fun e' w' => e' = .returned (.tuple #[]) ∧ Rf w' g b l ⟨s.pos, s.pos, e⟩ ∧ Ext (fun k => k = g) w w' := by
  obtain ⟨A, c, h1, h2, h3, h4, h5, h6, h7, h8⟩ := h
  have HB := Lib.hid h1
  have h10 := h1.cell 1
  have h12 := h1.cell 2
  have h13 := h1.cell 3
  have hf := h1.frozen
  simp only [List.getElem?_toArray, List.getElem?_cons_zero, List.getElem?_cons_succ] at h10 h12 h13
  have H3 := Lib.hid h3
  have H4 := Lib.hid h4
  clear h1 h3 h4
  go_enter Try.func51, Try.ntmps51
  go_wp2
  go_end0
  have hx := ((Ext.refl (fun k => k = g) w).setCell (p := ⟨g, 2, none⟩) (.inl rfl) (.int .i64 s.pos)).setCell (p := ⟨g, 3, none⟩) (.inl rfl) (.int .i64 e)
  exact ⟨rfl, ⟨A, c, (HB.out.set 2 _).set 3 _, h2, H3.out.ext hx (fun ad e' => by rw [H4.out ad e']; exact h5.1), H4.out, ⟨h5.1, Nat.lt_of_lt_of_le h5.2 hx.size⟩, h6, h7, h8⟩, hx⟩
theorem neT {x : Int} (h : x = 0) : (x != 0) = false := by simp [h]
theorem neF {x : Int} (h : ¬ x = 0) : (x != 0) = true := by simp [h]
theorem eqT {x : Int} (h : x = 0) : (x == 0) = true := by simp [h]
theorem eqF {x : Int} (h : ¬ x = 0) : (x == 0) = false := by simp [h]

set_option maxRecDepth 100000 in
set_option maxHeartbeats 1000000 in
theorem rNum_any (g b : Nat) (l : List Int) (s : RS) (w : World) (h : Rf w g b l s) :
    Calls Try.prog 46 #[.pointer (some ⟨g, 0, none⟩)] w fun e w' => e = .returned (.int .i64 (NumR l s).1) ∧ Rf w' g b l (NumR l s).2 ∧ Ext (fun k => k = g) w w' := by
  have hbd := h.bounds
  obtain ⟨hpos, hlen, hbyt⟩ := hbd
  have HBY := Lib.hid hbyt
  obtain ⟨A, c, ⟨c0, c1, c2, c3⟩, cf, hcl, hrow⟩ := h.cells
  have HROW := Lib.hid hrow
  have HR := Lib.hid h
  clear h hrow hbyt
  unfold NumR
  by_cases hfe : s.fe = 0
  · rw [if_pos hfe, numR_eq]
    have hb := neT hfe
    clear hfe
    have hnum := fun W (hr : Row W A (B8 l)) => number_any A c l s.pos W hr HBY.out hpos hlen
    have hp := numberR_pos l s.pos hpos
    generalize numberR l s.pos = r at hnum hp ⊢
    obtain ⟨n, to, e⟩ := r
    have HN := Lib.hid hnum
    clear hnum
    simp only at hp ⊢
    by_cases he : e = 0
    · rw [if_pos he]
      have hb2 := neT he
      clear he
      go_enter Try.func46, Try.ntmps46
      go_wp2
      go_quiet ((go_at_call 54; exact Calls.quiet_of_same ((HN.out _ (HROW.out.drewN _)).mono fun _ _ a => ⟨a.1, a.2.symm⟩)))
      go_wp2
      go_ret
      exact ⟨rfl, (HR.out.drewN _).setPos to _ rfl hp, ((Ext.refl (fun k => k = g) w).drewN _).setCell (p := ⟨g, 1, none⟩) (.inl rfl) _⟩
    · rw [if_neg he]
      have hb2 := neF he
      clear he
      go_enter Try.func46, Try.ntmps46
      go_wp2
      go_quiet ((go_at_call 54; exact Calls.quiet_of_same ((HN.out _ (HROW.out.drewN _)).mono fun _ _ a => ⟨a.1, a.2.symm⟩)))
      go_wp2_with (go_at_call 51; refine (wrong_any g b l s e _ (HR.out.drewN _)).mono ?_; rintro e w9 ⟨rfl, hr9, hx9⟩; have HR9 := Lib.hid hr9; have HX9 : Hid (Ext (fun k => k = g) w w9) := Lib.hid (((Ext.refl (fun k => k = g) w).drewN _).trans hx9 (fun _ _ a => a)); clear hr9 hx9)
      go_ret
      exact ⟨rfl, HR9.out, HX9.out⟩
  · rw [if_neg hfe]
    have hb := neF hfe
    clear hfe
    go_enter Try.func46, Try.ntmps46
    go_wp2
    go_ret
    exact ⟨rfl, HR.out, Ext.refl _ _⟩

set_option maxRecDepth 100000 in
set_option maxHeartbeats 1000000 in
theorem rcount_any (g b : Nat) (l : List Int) (s : RS) (most : Int) (w : World) (h : Rf w g b l s) :
    Calls Try.prog 55 #[.pointer (some ⟨g, 0, none⟩), .int .i64 most] w fun e w' => e = .returned (.tuple #[.int .i64 (countF l s.pos most).1, .int .i64 (countF l s.pos most).2.1, .int .i64 (countF l s.pos most).2.2]) ∧ ∃ n, w' = w.drewN n := by
  have hbd := h.bounds
  obtain ⟨hpos, hlen, hbyt⟩ := hbd
  have HBY := Lib.hid hbyt
  obtain ⟨A, c, ⟨c0, c1, c2, c3⟩, cf, hcl, hrow⟩ := h.cells
  have HROW := Lib.hid hrow
  have HR := Lib.hid h
  clear h hrow hbyt
  unfold countF
  have hnum := fun W (hr : Row W A (B8 l)) => number_any A c l s.pos W hr HBY.out hpos hlen
  generalize numberR l s.pos = r at hnum ⊢
  obtain ⟨n, to, e⟩ := r
  have HN := Lib.hid hnum
  clear hnum
  simp only
  by_cases he : e = 0
  · have hb2 := eqT he
    by_cases hn : n < 0
    · rw [if_pos ⟨he, .inl hn⟩]
      clear he
      go_enter Try.func55, Try.ntmps55
      go_wp2
      go_quiet ((go_at_call 54; exact Calls.quiet_of_same ((HN.out _ (HROW.out.drewN _)).mono fun _ _ a => ⟨a.1, a.2.symm⟩)))
      go_wp2
      go_ret3
      exact ⟨rfl, _, rfl⟩
    · by_cases hm : most < n
      · rw [if_pos ⟨he, .inr hm⟩]
        clear he
        have hn2 : 0 ≤ n := by omega
        clear hn
        go_enter Try.func55, Try.ntmps55
        go_wp2
        go_quiet ((go_at_call 54; exact Calls.quiet_of_same ((HN.out _ (HROW.out.drewN _)).mono fun _ _ a => ⟨a.1, a.2.symm⟩)))
        go_wp2
        go_ret3
        exact ⟨rfl, _, rfl⟩
      · rw [if_neg (fun a => a.2.elim hn hm)]
        clear he
        have hn2 : 0 ≤ n := by omega
        have hm2 : n ≤ most := by omega
        clear hn hm
        go_enter Try.func55, Try.ntmps55
        go_wp2
        go_quiet ((go_at_call 54; exact Calls.quiet_of_same ((HN.out _ (HROW.out.drewN _)).mono fun _ _ a => ⟨a.1, a.2.symm⟩)))
        go_wp2
        go_ret3
        exact ⟨rfl, _, rfl⟩
  · rw [if_neg (fun a => he a.1)]
    have hb2 := eqF he
    clear he
    go_enter Try.func55, Try.ntmps55
    go_wp2
    go_quiet ((go_at_call 54; exact Calls.quiet_of_same ((HN.out _ (HROW.out.drewN _)).mono fun _ _ a => ⟨a.1, a.2.symm⟩)))
    go_wp2
    go_ret3
    exact ⟨rfl, _, rfl⟩
end Go.Proofs.Yteofjillmhfamaa
