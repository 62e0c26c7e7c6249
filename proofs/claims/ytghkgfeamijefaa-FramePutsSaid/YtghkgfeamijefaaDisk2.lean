/- Package disk, walked: there, Off, Waiting, Size, held, Room, counted, Arm. -/
import Derived.Test.YtghkgfeamijefaaDisk
set_option linter.unusedVariables false
set_option linter.unusedSimpArgs false
namespace Go.Proofs.Ytghkgfeamijefaa
open Go.RowKit B
def inF (f : Int) : Bool := decide (0 ≤ f) && decide (f < 64)
theorem inF_true {f : Int} (h : inF f = true) : 0 ≤ f ∧ f < 64 := by simpa [inF] using h
theorem inF_false {f : Int} (h : inF f = false) : f < 0 ∨ 64 ≤ f := by
  have : ¬ (0 ≤ f ∧ f < 64) := fun hc => by simp [inF, hc.1, hc.2] at h
  omega
theorem there_any (f : Int) (w : World) : Calls Try.prog 51 #[.int .i64 f] w fun e w' => e = .returned (.bool (inF f)) ∧ Ext None_ w w' := by
  unfold inF
  by_cases h : 0 ≤ f
  · by_cases h2 : f < 64
    · go_enter Try.func51, Try.ntmps51
      go_wp2
      go_ret
      exact ⟨by simp [h, h2], Ext.refl _ _⟩
    · go_enter Try.func51, Try.ntmps51
      go_wp2
      go_ret
      exact ⟨by simp [h, h2], Ext.refl _ _⟩
  · go_enter Try.func51, Try.ntmps51
    go_wp2
    go_ret
    exact ⟨by simp [show ¬ 0 ≤ f by omega], Ext.refl _ _⟩
theorem DiskAt.cells {w : World} {M C : Nat → Prop} {g : Nat} {D : DS} (h : DiskAt w M C g D) : ∃ bf bs A c, (w.cell? ⟨g, 0, none⟩ = some (.int .i64 D.quota) ∧ w.cell? ⟨g, 1, none⟩ = some (.slice (some ⟨bf, 0, none⟩) 64 64) ∧ w.cell? ⟨g, 2, none⟩ = some (.slice (some ⟨bs, 0, none⟩) 64 64) ∧ w.cell? ⟨g, 3, none⟩ = some (.slice A D.wait.length c) ∧ w.cell? ⟨g, 4, none⟩ = some (.int .i64 D.armed) ∧ w.cell? ⟨g, 5, none⟩ = some (.bool D.off)) ∧ (∀ i, w.frozen? ⟨g, i, none⟩ = false) ∧ Fls w C bf D.files ∧ Fls w C bs D.safe ∧ Wts w C M (.slice A D.wait.length c) D.wait := by
  obtain ⟨bf, bs, wv, a1, a2, a3, a4, _⟩ := h.lay
  obtain ⟨pv, b1, b2, b3⟩ := a4
  obtain ⟨A, c, rfl, _⟩ := Own.slice b2
  exact ⟨bf, bs, A, c, ⟨a1.cell 0, a1.cell 1, a1.cell 2, a1.cell 3, a1.cell 4, a1.cell 5⟩, a1.frozen, a2, a3, pv, b1, b2, b3⟩
theorem DOff_any (g : Nat) (D : DS) (M C : Nat → Prop) (w : World) (h : DiskAt w M C g D) : Calls Try.prog 30 #[.pointer (some ⟨g, 0, none⟩)] w fun e w' => e = .returned (.bool D.off) ∧ Ext None_ w w' := by
  obtain ⟨bf, bs, A, c, ⟨c0, c1, c2, c3, c4, c5⟩, cf, _⟩ := h.cells
  clear h
  go_enter Try.func30, Try.ntmps30
  go_wp2
  go_ret
  exact ⟨rfl, Ext.refl _ _⟩
theorem DWaiting_any (g : Nat) (D : DS) (M C : Nat → Prop) (w : World) (h : DiskAt w M C g D) : Calls Try.prog 29 #[.pointer (some ⟨g, 0, none⟩)] w fun e w' => e = .returned (.int .i64 D.wait.length) ∧ Ext None_ w w' := by
  obtain ⟨bf, bs, A, c, ⟨c0, c1, c2, c3, c4, c5⟩, cf, _⟩ := h.cells
  clear h
  go_enter Try.func29, Try.ntmps29
  go_wp2
  go_ret
  exact ⟨rfl, Ext.refl _ _⟩
def fileAt (fs : List (List Int)) (f : Int) : List Int := fs[f.toNat]?.getD []
theorem fileAt_some {fs : List (List Int)} {f : Nat} (h : f < fs.length) : fileAt fs (f : Int) = fs[f] := by simp [fileAt, h]
theorem Fls.file {w : World} {C : Nat → Prop} {b : Nat} {fs : List (List Int)} (h : Fls w C b fs) {i : Nat} (hi : i < fs.length) : ∃ A c, w.cell? ⟨b, i, none⟩ = some (.slice A (fileAt fs i).length c) ∧ Row w A (B8 (fileAt fs i)) ∧ (fileAt fs i).length ≤ c ∧ c ≤ 9223372036854775807 ∧ Byt (fileAt fs i) ∧ ∀ ad, A = some ad → C ad.block ∧ ad.block < w.heap.size := by
  rw [fileAt_some hi]; exact h.at_ hi
theorem fileAt_mem {fs : List (List Int)} {i : Nat} (h : i < fs.length) : fileAt fs i ∈ fs := by rw [fileAt_some h]; exact List.getElem_mem _
theorem DSize_any (g : Nat) (D : DS) (M C : Nat → Prop) (f : Int) (w : World) (h : DiskAt w M C g D) : Calls Try.prog 55 #[.pointer (some ⟨g, 0, none⟩), .int .i64 f] w fun e w' => e = .returned (.int .i64 (if inF f = true then (fileAt D.files f).length else 0 : Nat)) ∧ Ext None_ w w' := by
  obtain ⟨bf, bs, A, c, ⟨c0, c1, c2, c3, c4, c5⟩, cf, hfl, _⟩ := h.cells
  have h64 := h.ok.f64
  clear h
  obtain ⟨b, hb⟩ : ∃ b, b = inF f := ⟨_, rfl⟩
  have HT : ∀ W, Calls Try.prog 51 #[.int .i64 f] W fun e w' => e = .returned (.bool b) ∧ Ext None_ W w' := fun W => hb ▸ there_any f W
  rw [← hb]
  cases b with
  | false =>
    rw [if_neg (by simp)]
    clear hb
    go_enter Try.func55, Try.ntmps55
    go_wp2_with (go_at_call 51; refine (HT _).mono ?_; rintro e w1 ⟨rfl, hx1⟩)
    go_ret
    exact ⟨rfl, hx1⟩
  | true =>
    obtain ⟨hf0, hf1⟩ := inF_true hb.symm
    obtain ⟨n, rfl⟩ : ∃ n : Nat, f = n := ⟨f.toNat, by omega⟩
    rw [if_pos rfl]
    have HFL := Lib.hid (fun W (hx : Ext None_ w W) => (hfl.ext hx (fun a => a) (fun _ _ a => a)).file (i := n) (by omega))
    obtain ⟨l, hl⟩ : ∃ l, l = fileAt D.files n := ⟨_, rfl⟩
    rw [← hl] at HFL ⊢
    clear hfl hl hb
    go_enter Try.func55, Try.ntmps55
    go_wp2_with (go_at_call 51; refine (HT _).mono ?_; rintro e w1 ⟨rfl, hx1⟩; obtain ⟨A1, cc1, hc1, _⟩ := HFL.out _ hx1; have HX1 := Lib.hid hx1; have d1 := hx1.cell c1 (fun a => a); clear hx1)
    go_ret
    exact ⟨rfl, HX1.out⟩
theorem heldN_take {fs : List (List Int)} {k : Nat} (h : k < fs.length) : heldN (fs.take (k + 1)) = heldN (fs.take k) + (fileAt fs k).length := by
  rw [List.take_add_one, List.getElem?_eq_getElem h, fileAt_some h]; simp only [heldN, Option.toList, List.map_append, List.sum_append, List.map_cons, List.map_nil, List.sum_cons, List.sum_nil, Nat.add_zero]
theorem heldN_le (fs : List (List Int)) (m : Nat) (h : ∀ l ∈ fs, l.length ≤ m) : heldN fs ≤ m * fs.length := by
  induction fs with
  | nil => simp [heldN]
  | cons x r ih =>
    have h1 := ih (fun l hl => h l (List.mem_cons_of_mem _ hl))
    have h2 := h x (List.mem_cons_self ..)
    simp only [heldN, List.map_cons, List.sum_cons, List.length_cons] at h1 ⊢
    rw [Nat.mul_succ]; omega
theorem heldN_bound (fs : List (List Int)) (k : Nat) (h : ∀ l ∈ fs, l.length ≤ 1048576) (h64 : fs.length = 64) : heldN (fs.take k) ≤ 67108864 := by
  have := heldN_le (fs.take k) 1048576 (fun l hl => h l (List.mem_of_mem_take hl))
  have h2 : (fs.take k).length ≤ 64 := by rw [List.length_take]; omega
  omega
set_option maxHeartbeats 2000000 in
theorem held_any (g : Nat) (D : DS) (M C : Nat → Prop) (w : World) (h : DiskAt w M C g D) : Calls Try.prog 52 #[.pointer (some ⟨g, 0, none⟩)] w fun e w' => e = .returned (.int .i64 (heldN D.files)) ∧ Ext None_ w w' := by
  obtain ⟨bf, bs, A, c, ⟨c0, c1, c2, c3, c4, c5⟩, cf, hfl, _⟩ := h.cells
  have h64 := h.ok.f64
  have HB := Lib.hid (fun k => heldN_bound D.files k h.ok.fl h64)
  have HM := Lib.hid (fun (k : Nat) (hk : k < 64) => h.ok.fl _ (fileAt_mem (fs := D.files) (i := k) (by omega)))
  clear h
  have HFL := Lib.hid (fun (k : Nat) (hk : k < 64) (W : World) (hx : Ext None_ w W) => (hfl.ext hx (fun a => a) (fun _ _ a => a)).file (i := k) (by omega))
  have HS := Lib.hid (fun (k : Nat) (hk : k < D.files.length) => heldN_take (fs := D.files) hk)
  have HE : Hid (heldN (D.files.take 64) = heldN D.files) := Lib.hid (by rw [← h64, List.take_length])
  generalize D.files = F at HB HM HFL HS HE h64 ⊢
  clear hfl
  go_enter Try.func52, Try.ntmps52
  go_wp2
  go_loopw [3, 5, 11] (fun v3 _ v11 wr => ∃ (k : Nat), v3 = .int .i64 (heldN (F.take k)) ∧ v11 = .int .i64 k ∧ k ≤ 64 ∧ Hid (Ext None_ w wr)) (fun _ _ v11 _ => 64 - (intOf v11).toNat)
  case atStart => exact ⟨0, rfl, rfl, by omega, Lib.hid (Ext.refl _ _)⟩
  case round =>
    obtain ⟨k, rfl, rfl, hk, hx⟩ := hrel
    have hb1 := HB.out k
    have hb2 := HB.out (k + 1)
    by_cases hend : k = 64
    · subst hend
      have HE' := HE.out
      go_wp2
      go_ret
      rw [HE']
      exact ⟨rfl, hx.out⟩
    · have hlt : k < 64 := by omega
      obtain ⟨A1, cc1, hc1, hr1, hcc1, hcc2, _⟩ := HFL.out k hlt _ hx.out
      have HS1 := Lib.hid (HS.out k (by omega))
      have hl1 := HM.out k hlt
      go_wp2
      exact ⟨⟨k + 1, by rw [HS1.out]; simp, by simp, by omega, hx⟩, by simp only [intOf]; omega⟩
end Go.Proofs.Ytghkgfeamijefaa
