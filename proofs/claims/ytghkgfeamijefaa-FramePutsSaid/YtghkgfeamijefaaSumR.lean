/- Packages drayref2 and frame, walked: Seal, four. -/
import Derived.Test.YtghkgfeamijefaaSumO
set_option linter.unusedVariables false
set_option linter.unusedSimpArgs false
namespace Go.Proofs.Ytghkgfeamijefaa
open Go.RowKit B
theorem made0 (w : World) : OwnB (w.alloc (.cells #[] 5)) (fun k => w.heap.size ≤ k) (.slice (some ⟨w.heap.size, 0, none⟩) 0 0) [] :=
  OwnB.mono (ok := fun k => k = w.heap.size) (Own.made w #[] 0 (by simp [maxLen]) rfl) (fun k _ e => by omega)
set_option maxRecDepth 100000 in
set_option maxHeartbeats 4000000 in
theorem rseal_any (A : Option Addr) (c : Nat) (l : List Int) (w : World) (hrow : Row w A (B8 l)) (hb : Byt l) (hlen : l.length + 4 ≤ 140737488355328) :
    Calls Try.prog 38 #[.slice A l.length c] w fun e w' => ∃ v', e = .returned v' ∧ OwnB w' (fun k => w.heap.size ≤ k) v' (l ++ le4 (sumOf 0#32 l)) ∧ Ext None_ w w' := by
  have HR := Lib.hid hrow
  have HA := Lib.hid (radd_any 0#32 A c l w hrow hb (by omega))
  rw [show nt 0#32 = 0 from rfl] at HA
  clear hrow hb
  obtain ⟨S, hS⟩ : ∃ S, S = sumOf 0#32 l := ⟨_, rfl⟩
  rw [← hS] at HA ⊢
  have hbd := nt_bounds S
  obtain ⟨hb0, hb1⟩ := hbd
  obtain ⟨N, hN⟩ : ∃ N, N = nt S := ⟨_, rfl⟩
  have HF : Hid (le4 S = [N % 256, N / 256 % 256, N / 65536 % 256, N / 16777216]) := Lib.hid (by rw [hN]; rfl)
  rw [← hN] at HA hb0 hb1
  clear hS hN
  go_enter Try.func38, Try.ntmps38
  go_wp2_with fail
  refine HA.out.mono ?_
  rintro e w0 ⟨rfl, rfl⟩
  go_wp2_with (first
    | (at_builtin; refine app8 rfl (.tmp 6) (.tmp 7) rfl (.slice (some ⟨w.heap.size, 0, none⟩) 0 0) [] l A c rfl rfl (made0 w) (HR.out.ext0 ((Ext.refl _ _).alloc _)) (by simp; omega) ?_; intro v1 w1 ho1 hx1; have HO1 := Lib.hid ho1; have HX1 := Lib.hid hx1; clear ho1 hx1)
    | (at_builtin; refine app8 rfl (.tmp 8) (.tmp 20) rfl v1 l [N % 256, N / 256 % 256, N / 65536 % 256, N / 16777216] _ _ rfl rfl (HO1.out.alloc _) (Blk.new _ _ _).row (by simp; omega) ?_; intro v2 w2 ho2 hx2; have HO2 := Lib.hid ho2; have HX2 := Lib.hid hx2; clear ho2 hx2))
  go_ret
  have hs1 : w.heap.size + 1 ≤ w1.heap.size := by have := HX1.out.size; simp at this; omega
  have hs2 : w1.heap.size + 1 ≤ w2.heap.size := by have := HX2.out.size; simp at this; omega
  have hv1 : ∀ k, v1.ownBlock = some k → w.heap.size ≤ k := fun k hk => by
    rcases HO1.out.blk k hk with h | h
    · simp [Value.ownBlock] at h; omega
    · simp at h; omega
  rw [HF.out]
  refine ⟨_, rfl, ?_, ?_⟩
  · refine OwnB.mono HO2.out (fun k _ hk => ?_)
    rcases hk with hk | hk
    · exact hv1 k hk
    · simp at hk; omega
  · refine ((((Ext.refl None_ w).alloc _).trans HX1.out (fun k hk h => ?_)).alloc _).trans HX2.out (fun k hk h => ?_)
    · simp [Of, Value.ownBlock] at h; omega
    · have := hv1 k h; omega
set_option maxRecDepth 100000 in
theorem four_any (S : BitVec 32) (w : World) :
    Calls Try.prog 75 #[.int .u32 (nt S)] w fun e w' => ∃ v', e = .returned v' ∧ OwnB w' (fun k => w.heap.size ≤ k) v' (le4 S) ∧ Ext None_ w w' := by
  have hbd := nt_bounds S
  obtain ⟨hb0, hb1⟩ := hbd
  obtain ⟨N, hN⟩ : ∃ N, N = nt S := ⟨_, rfl⟩
  have HF : Hid (le4 S = [N % 256, N / 256 % 256, N / 65536 % 256, N / 16777216]) := Lib.hid (by rw [hN]; rfl)
  rw [← hN] at hb0 hb1 ⊢
  clear hN
  go_enter Try.func75, Try.ntmps75
  go_wp2_with fail
  go_ret
  rw [HF.out]
  exact ⟨_, rfl, OwnB.mono (ok := fun k => k = w.heap.size) (Own.full w #[.int .u8 (N % 256), .int .u8 (N / 256 % 256), .int .u8 (N / 65536 % 256), .int .u8 (N / 16777216)] 4 (by simp [maxLen]) rfl) (fun k _ e => by omega), x0 _ _⟩
set_option maxRecDepth 100000 in
theorem rfour_any (S : BitVec 32) (w : World) :
    Calls Try.prog 76 #[.int .u32 (nt S)] w fun e w' => ∃ v', e = .returned v' ∧ OwnB w' (fun k => w.heap.size ≤ k) v' (le4 S) ∧ Ext None_ w w' := by
  have hbd := nt_bounds S
  obtain ⟨hb0, hb1⟩ := hbd
  obtain ⟨N, hN⟩ : ∃ N, N = nt S := ⟨_, rfl⟩
  have HF : Hid (le4 S = [N % 256, N / 256 % 256, N / 65536 % 256, N / 16777216]) := Lib.hid (by rw [hN]; rfl)
  rw [← hN] at hb0 hb1 ⊢
  clear hN
  go_enter Try.func76, Try.ntmps76
  go_wp2_with fail
  go_ret
  rw [HF.out]
  exact ⟨_, rfl, OwnB.mono (ok := fun k => k = w.heap.size) (Own.full w #[.int .u8 (N % 256), .int .u8 (N / 256 % 256), .int .u8 (N / 65536 % 256), .int .u8 (N / 16777216)] 4 (by simp [maxLen]) rfl) (fun k _ e => by omega), x0 _ _⟩
end Go.Proofs.Ytghkgfeamijefaa
