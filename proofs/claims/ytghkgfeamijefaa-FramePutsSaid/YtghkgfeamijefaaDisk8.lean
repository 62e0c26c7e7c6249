/- Package disk, walked: Write. Written by gen_disk8.py. -/
import Derived.Test.YtghkgfeamijefaaDisk7
set_option linter.unusedVariables false
set_option linter.unusedSimpArgs false
namespace Go.Proofs.Ytghkgfeamijefaa
open Go.RowKit B
def atOk (f z : Int) : Bool := inF f && (decide (0 ≤ z) && decide (z ≤ 1048576))
def fullD (D : DS) (f z : Int) (p : List Int) : Bool := decide (((fileAt D.files f).length : Int) < z + p.length) && decide (D.quota < heldN D.files - (fileAt D.files f).length + z + p.length)
def writeD (D : DS) (f z : Int) (p : List Int) : Int × DS := if (countD D).1 = true then (if atOk f z = true then (if fullD (countD D).2 f z p = true then (10, (countD D).2) else (0, { (countD D).2 with files := (countD D).2.files.set f.toNat (wrF (fileAt (countD D).2.files f) z.toNat p), wait := (countD D).2.wait ++ [⟨false, f.toNat, z.toNat, p⟩] })) else (1, (countD D).2)) else (11, (countD D).2)
theorem DiskAt.has {w : World} {M C : Nat → Prop} {g : Nat} {D : DS} (h : DiskAt w M C g D) : ∀ l ∈ D.files, l.length ≤ heldN D.files := by
  generalize D.files = F
  induction F with
  | nil => intro l hl; simp at hl
  | cons x r ih =>
    intro l hl
    simp only [heldN, List.map_cons, List.sum_cons] at ih ⊢
    rcases List.mem_cons.1 hl with rfl | hl
    · omega
    · have := ih l hl; omega
set_option maxRecDepth 100000 in
set_option maxHeartbeats 8000000 in
theorem DWrite_off (g : Nat) (D : DS) (M C : Nat → Prop) (f z : Int) (A2 : Option Addr) (c2 : Nat) (p : List Int) (w : World) (h : DiskAt w M C g D) (hc : (countD D).1 = false) : Calls Try.prog 16 #[.pointer (some ⟨g, 0, none⟩), .int .i64 f, .int .i64 z, .slice A2 p.length c2] w fun e w' => e = .returned (.int .i64 (writeD D f z p).1) ∧ Left w w' M C g (writeD D f z p).2 := by
  have HC := Lib.hid (counted_any g D M C w h)
  have hg : M g := by obtain ⟨_, _, _, _, _, _, _, _, h6, _⟩ := h.lay; exact h6.1
  have HG := Lib.hid (show ∀ W, Ext (fun k => k = g) w W → Ext M w W from fun W hx => hx.mono (fun k _ e => e ▸ hg))
  unfold writeD
  rw [if_neg (by rw [hc]; decide)]
  rw [hc] at HC
  clear h hg hc
  go_enter Try.func16, Try.ntmps16
  go_wp2_with (go_at_call 50; refine HC.out.mono ?_; rintro e wS ⟨rfl, hd1, hx1⟩; have HD1 := Lib.hid hd1; have HX1 := Lib.hid hx1; clear hd1 hx1)
  go_ret
  exact ⟨rfl, Left.same HD1.out (HG.out _ HX1.out)⟩
set_option maxRecDepth 100000 in
set_option maxHeartbeats 8000000 in
theorem DWrite_arg (g : Nat) (D : DS) (M C : Nat → Prop) (f z : Int) (A2 : Option Addr) (c2 : Nat) (p : List Int) (w : World) (h : DiskAt w M C g D) (hc : (countD D).1 = true) (ha : atOk f z = false) : Calls Try.prog 16 #[.pointer (some ⟨g, 0, none⟩), .int .i64 f, .int .i64 z, .slice A2 p.length c2] w fun e w' => e = .returned (.int .i64 (writeD D f z p).1) ∧ Left w w' M C g (writeD D f z p).2 := by
  have HC := Lib.hid (counted_any g D M C w h)
  have hg : M g := by obtain ⟨_, _, _, _, _, _, _, _, h6, _⟩ := h.lay; exact h6.1
  have HG := Lib.hid (show ∀ W, Ext (fun k => k = g) w W → Ext M w W from fun W hx => hx.mono (fun k _ e => e ▸ hg))
  have HTH := Lib.hid (fun W => there_any f W)
  unfold writeD
  rw [if_pos hc, if_neg (by rw [ha]; decide)]
  rw [hc] at HC
  clear h hg hc
  cases hi : inF f with
  | false =>
    rw [hi] at HTH
    clear hi ha
    go_enter Try.func16, Try.ntmps16
    go_wp2_with (first
      | (go_at_call 50; refine HC.out.mono ?_; rintro e wS ⟨rfl, hd1, hx1⟩; have HD1 := Lib.hid hd1; have HX1 := Lib.hid hx1; clear hd1 hx1)
      | (go_at_call 51; refine (HTH.out _).mono ?_; rintro e wT ⟨rfl, hx2⟩; have HX2 := Lib.hid hx2; clear hx2))
    go_ret
    exact ⟨rfl, Left.same (HD1.out.ext0 HX2.out) ((HG.out _ HX1.out).trans0 HX2.out)⟩
  | true =>
    rw [hi] at HTH
    have hz : z < 0 ∨ 1048576 < z := by simp [atOk, hi] at ha; omega
    clear hi ha
    by_cases h0 : z < 0
    · clear hz
      go_enter Try.func16, Try.ntmps16
      go_wp2_with (first
        | (go_at_call 50; refine HC.out.mono ?_; rintro e wS ⟨rfl, hd1, hx1⟩; have HD1 := Lib.hid hd1; have HX1 := Lib.hid hx1; clear hd1 hx1)
        | (go_at_call 51; refine (HTH.out _).mono ?_; rintro e wT ⟨rfl, hx2⟩; have HX2 := Lib.hid hx2; clear hx2))
      go_ret
      exact ⟨rfl, Left.same (HD1.out.ext0 HX2.out) ((HG.out _ HX1.out).trans0 HX2.out)⟩
    · have h1 : 1048576 < z := by omega
      clear hz
      go_enter Try.func16, Try.ntmps16
      go_wp2_with (first
        | (go_at_call 50; refine HC.out.mono ?_; rintro e wS ⟨rfl, hd1, hx1⟩; have HD1 := Lib.hid hd1; have HX1 := Lib.hid hx1; clear hd1 hx1)
        | (go_at_call 51; refine (HTH.out _).mono ?_; rintro e wT ⟨rfl, hx2⟩; have HX2 := Lib.hid hx2; clear hx2))
      go_ret
      exact ⟨rfl, Left.same (HD1.out.ext0 HX2.out) ((HG.out _ HX1.out).trans0 HX2.out)⟩
end Go.Proofs.Ytghkgfeamijefaa
