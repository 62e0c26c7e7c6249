/- drayref15: Decode, walked. Written by gen_dec.py. -/
import Derived.Test.YtmobdofkiddfhaaCmdDa
set_option linter.unusedVariables false
set_option linter.unusedSimpArgs false
namespace Go.Proofs.Ytmobdofkiddfhaa
open Go.RowKit B

set_option maxRecDepth 100000 in
set_option maxHeartbeats 16000000 in
theorem rdecodeA_any (s : ByteArray) (w : World) (hs : s.size ≤ 140737488355328) (hc : ¬ (d3 (bytesOf s)).2.fe = 0) :
    Calls Try.prog 53 #[.string s] w fun e w' => e = .returned (.tuple #[.agg (decR (bytesOf s)).1.cells, .int .i64 (decR (bytesOf s)).2]) ∧ Ext None_ w w' := by
  obtain ⟨A, c, W1, hconv, hx1, hrow, hsz⟩ := conv_bytes (w.alloc (.cells #[.int .i64 0, .int .i64 0, .int .i64 0, .int .i64 0, .int .i64 0, .int .i64 0, .int .i64 0, .int .i64 0, .int .i64 0, .int .i64 0, .int .i64 0, .int .i64 0, .int .i64 0, .int .i64 0, .int .i64 0, .int .i64 0, .int .i64 0, .int .i64 0, .bool false, .int .i64 0, .int .i64 0] 70)) s
  rw [show (w.alloc (.cells #[.int .i64 0, .int .i64 0, .int .i64 0, .int .i64 0, .int .i64 0, .int .i64 0, .int .i64 0, .int .i64 0, .int .i64 0, .int .i64 0, .int .i64 0, .int .i64 0, .int .i64 0, .int .i64 0, .int .i64 0, .int .i64 0, .int .i64 0, .int .i64 0, .bool false, .int .i64 0, .int .i64 0] 70)).heap.size = w.heap.size + 1 from by simp] at hsz
  have hln := bytesOf_length s
  have hby := Byt_of s
  obtain ⟨l, hl⟩ : ∃ l, l = bytesOf s := ⟨_, rfl⟩
  rw [← hl] at hconv hrow hln hby hc ⊢
  have HC := Lib.hid hc
  have HX1 := Lib.hid hx1
  have HROW := Lib.hid hrow
  have HLN := Lib.hid hln
  have HBY := Lib.hid hby
  have HSZ := Lib.hid hsz
  have hz1 : w.heap.size < W1.heap.size := by omega
  clear hx1 hrow hl hsz hc hln hby
  go_enter Try.func53, Try.ntmps53
  go_wp2_with fail
  refine (rRead_any A c l _ HROW.out HBY.out (by rw [HLN.out]; exact hs)).mono ?_
  rintro e w2 ⟨g, b, rfl, r0, hg, hb, x0_⟩
  have R0 := Lib.hid r0
  have hlt := r0.lt.1
  have hlt2 := r0.lt.2.1
  have hz2 : W1.heap.size ≤ w2.heap.size := x0_.size
  have A0 : Hid (Blk w2 w.heap.size #[.int .i64 0, .int .i64 0, .int .i64 0, .int .i64 0, .int .i64 0, .int .i64 0, .int .i64 0, .int .i64 0, .int .i64 0, .int .i64 0, .int .i64 0, .int .i64 0, .int .i64 0, .int .i64 0, .int .i64 0, .int .i64 0, .int .i64 0, .int .i64 0, .bool false, .int .i64 0, .int .i64 0] 70) := Lib.hid (((Blk.new w #[.int .i64 0, .int .i64 0, .int .i64 0, .int .i64 0, .int .i64 0, .int .i64 0, .int .i64 0, .int .i64 0, .int .i64 0, .int .i64 0, .int .i64 0, .int .i64 0, .int .i64 0, .int .i64 0, .int .i64 0, .int .i64 0, .int .i64 0, .int .i64 0, .bool false, .int .i64 0, .int .i64 0] 70).ext0 HX1.out).ext0 x0_)
  have X0 : Hid (Ext None_ w w2) := Lib.hid ((((x0 _ _).trans0 HX1.out)).trans0 x0_)
  clear x0_ r0 hconv HROW HX1
  have R0' := Lib.hid (R0.out.ext0 (x0 w2 (.cells #[.int .i64 0, .int .i64 0, .int .i64 0, .int .i64 0, .int .i64 0, .int .i64 0, .int .i64 0, .int .i64 0, .int .i64 0, .int .i64 0, .int .i64 0, .int .i64 0, .int .i64 0, .int .i64 0, .int .i64 0, .int .i64 0, .int .i64 0, .int .i64 0, .bool false, .int .i64 0, .int .i64 0] 70)))
  have A0' := Lib.hid (A0.out.alloc (.cells #[.int .i64 0, .int .i64 0, .int .i64 0, .int .i64 0, .int .i64 0, .int .i64 0, .int .i64 0, .int .i64 0, .int .i64 0, .int .i64 0, .int .i64 0, .int .i64 0, .int .i64 0, .int .i64 0, .int .i64 0, .int .i64 0, .int .i64 0, .int .i64 0, .bool false, .int .i64 0, .int .i64 0] 70))
  have X0' := Lib.hid (X0.out.alloc (.cells #[.int .i64 0, .int .i64 0, .int .i64 0, .int .i64 0, .int .i64 0, .int .i64 0, .int .i64 0, .int .i64 0, .int .i64 0, .int .i64 0, .int .i64 0, .int .i64 0, .int .i64 0, .int .i64 0, .int .i64 0, .int .i64 0, .int .i64 0, .int .i64 0, .bool false, .int .i64 0, .int .i64 0] 70))
  have B0 := Lib.hid (Blk.new w2 #[.int .i64 0, .int .i64 0, .int .i64 0, .int .i64 0, .int .i64 0, .int .i64 0, .int .i64 0, .int .i64 0, .int .i64 0, .int .i64 0, .int .i64 0, .int .i64 0, .int .i64 0, .int .i64 0, .int .i64 0, .int .i64 0, .int .i64 0, .int .i64 0, .bool false, .int .i64 0, .int .i64 0] 70)
  clear R0 A0 X0
  go_wp2_with fail
  refine (rNum_ex g b l ⟨0, 0, 0⟩ _ R0'.out).mono ?_
  rintro e w3 ⟨n3, s3, e3, rfl, r3, x3⟩
  have B3 : Hid (Blk w3 w2.heap.size #[.int .i64 0, .int .i64 0, .int .i64 0, .int .i64 0, .int .i64 0, .int .i64 0, .int .i64 0, .int .i64 0, .int .i64 0, .int .i64 0, .int .i64 0, .int .i64 0, .int .i64 0, .int .i64 0, .int .i64 0, .int .i64 0, .int .i64 0, .int .i64 0, .bool false, .int .i64 0, .int .i64 0] 70) := Lib.hid ((show Blk _ w2.heap.size #[.int .i64 0, .int .i64 0, .int .i64 0, .int .i64 0, .int .i64 0, .int .i64 0, .int .i64 0, .int .i64 0, .int .i64 0, .int .i64 0, .int .i64 0, .int .i64 0, .int .i64 0, .int .i64 0, .int .i64 0, .int .i64 0, .int .i64 0, .int .i64 0, .bool false, .int .i64 0, .int .i64 0] 70 from B0.out).ext x3 (by omega))
  have A3 : Hid (Blk w3 w.heap.size #[.int .i64 0, .int .i64 0, .int .i64 0, .int .i64 0, .int .i64 0, .int .i64 0, .int .i64 0, .int .i64 0, .int .i64 0, .int .i64 0, .int .i64 0, .int .i64 0, .int .i64 0, .int .i64 0, .int .i64 0, .int .i64 0, .int .i64 0, .int .i64 0, .bool false, .int .i64 0, .int .i64 0] 70) := Lib.hid (A0'.out.ext x3 (by omega))
  have X3 : Hid (Ext None_ w w3) := Lib.hid (X0'.out.trans x3 (fun i hi e => by exfalso; omega))
  have R3 := Lib.hid r3
  clear x3 r3 A0' B0 R0' X0'
  have E3 := Lib.hid e3
  clear e3
  have bc := B3.out.cell
  have bf := B3.out.frozen
  go_wp2_with fail
  refine (rNum_ex g b l s3 _ (R3.out.ext ((Ext.refl (fun k => k = w2.heap.size) w3).setCell (p := ⟨w2.heap.size, 0, none⟩) (.inl rfl) (.int .i64 n3)) (by omega) (by omega))).mono ?_
  rintro e w4 ⟨n4, s4, e4, rfl, r4, x4⟩
  have B4 : Hid (Blk w4 w2.heap.size #[.int .i64 n3, .int .i64 0, .int .i64 0, .int .i64 0, .int .i64 0, .int .i64 0, .int .i64 0, .int .i64 0, .int .i64 0, .int .i64 0, .int .i64 0, .int .i64 0, .int .i64 0, .int .i64 0, .int .i64 0, .int .i64 0, .int .i64 0, .int .i64 0, .bool false, .int .i64 0, .int .i64 0] 70) := Lib.hid ((show Blk _ w2.heap.size #[.int .i64 n3, .int .i64 0, .int .i64 0, .int .i64 0, .int .i64 0, .int .i64 0, .int .i64 0, .int .i64 0, .int .i64 0, .int .i64 0, .int .i64 0, .int .i64 0, .int .i64 0, .int .i64 0, .int .i64 0, .int .i64 0, .int .i64 0, .int .i64 0, .bool false, .int .i64 0, .int .i64 0] 70 from (show Blk _ w2.heap.size #[.int .i64 n3, .int .i64 0, .int .i64 0, .int .i64 0, .int .i64 0, .int .i64 0, .int .i64 0, .int .i64 0, .int .i64 0, .int .i64 0, .int .i64 0, .int .i64 0, .int .i64 0, .int .i64 0, .int .i64 0, .int .i64 0, .int .i64 0, .int .i64 0, .bool false, .int .i64 0, .int .i64 0] 70 from (B3.out.set 0 (.int .i64 n3)))).ext x4 (by omega))
  have A4 : Hid (Blk w4 w.heap.size #[.int .i64 0, .int .i64 0, .int .i64 0, .int .i64 0, .int .i64 0, .int .i64 0, .int .i64 0, .int .i64 0, .int .i64 0, .int .i64 0, .int .i64 0, .int .i64 0, .int .i64 0, .int .i64 0, .int .i64 0, .int .i64 0, .int .i64 0, .int .i64 0, .bool false, .int .i64 0, .int .i64 0] 70) := Lib.hid ((A3.out.far (p := ⟨w2.heap.size, 0, none⟩) (by show w.heap.size ≠ w2.heap.size; omega) (.int .i64 n3)).ext x4 (by omega))
  have X4 : Hid (Ext None_ w w4) := Lib.hid ((X3.out.setCell (p := ⟨w2.heap.size, 0, none⟩) (.inr (by show w.heap.size ≤ w2.heap.size; omega)) (.int .i64 n3)).trans x4 (fun i hi e => by exfalso; omega))
  have R4 := Lib.hid r4
  clear x4 r4 A3 B3 R3 X3
  have E4 := Lib.hid e4
  clear e4
  clear bc bf
  have bc := B4.out.cell
  have bf := B4.out.frozen
  go_wp2_with fail
  refine (rNum_ex g b l s4 _ (R4.out.ext ((Ext.refl (fun k => k = w2.heap.size) w4).setCell (p := ⟨w2.heap.size, 1, none⟩) (.inl rfl) (.int .i64 n4)) (by omega) (by omega))).mono ?_
  rintro e w5 ⟨n5, s5, e5, rfl, r5, x5⟩
  have B5 : Hid (Blk w5 w2.heap.size #[.int .i64 n3, .int .i64 n4, .int .i64 0, .int .i64 0, .int .i64 0, .int .i64 0, .int .i64 0, .int .i64 0, .int .i64 0, .int .i64 0, .int .i64 0, .int .i64 0, .int .i64 0, .int .i64 0, .int .i64 0, .int .i64 0, .int .i64 0, .int .i64 0, .bool false, .int .i64 0, .int .i64 0] 70) := Lib.hid ((show Blk _ w2.heap.size #[.int .i64 n3, .int .i64 n4, .int .i64 0, .int .i64 0, .int .i64 0, .int .i64 0, .int .i64 0, .int .i64 0, .int .i64 0, .int .i64 0, .int .i64 0, .int .i64 0, .int .i64 0, .int .i64 0, .int .i64 0, .int .i64 0, .int .i64 0, .int .i64 0, .bool false, .int .i64 0, .int .i64 0] 70 from (show Blk _ w2.heap.size #[.int .i64 n3, .int .i64 n4, .int .i64 0, .int .i64 0, .int .i64 0, .int .i64 0, .int .i64 0, .int .i64 0, .int .i64 0, .int .i64 0, .int .i64 0, .int .i64 0, .int .i64 0, .int .i64 0, .int .i64 0, .int .i64 0, .int .i64 0, .int .i64 0, .bool false, .int .i64 0, .int .i64 0] 70 from (B4.out.set 1 (.int .i64 n4)))).ext x5 (by omega))
  have A5 : Hid (Blk w5 w.heap.size #[.int .i64 0, .int .i64 0, .int .i64 0, .int .i64 0, .int .i64 0, .int .i64 0, .int .i64 0, .int .i64 0, .int .i64 0, .int .i64 0, .int .i64 0, .int .i64 0, .int .i64 0, .int .i64 0, .int .i64 0, .int .i64 0, .int .i64 0, .int .i64 0, .bool false, .int .i64 0, .int .i64 0] 70) := Lib.hid ((A4.out.far (p := ⟨w2.heap.size, 1, none⟩) (by show w.heap.size ≠ w2.heap.size; omega) (.int .i64 n4)).ext x5 (by omega))
  have X5 : Hid (Ext None_ w w5) := Lib.hid ((X4.out.setCell (p := ⟨w2.heap.size, 1, none⟩) (.inr (by show w.heap.size ≤ w2.heap.size; omega)) (.int .i64 n4)).trans x5 (fun i hi e => by exfalso; omega))
  have R5 := Lib.hid r5
  clear x5 r5 A4 B4 R4 X4
  have E5 := Lib.hid e5
  clear e5
  clear bc bf
  have bc := B5.out.cell
  have bf := B5.out.frozen
  have D3 : d3 l = (n5, s5) := by unfold d3 d2 d1; rw [E3.out, E4.out, E5.out]
  have D2 : d2 l = (n4, s4) := by unfold d2 d1; rw [E3.out, E4.out]
  have D1 : d1 l = (n3, s3) := E3.out
  have hc := HC.out
  rw [D3] at hc
  have hk : n5 = 0 := NumR_zero E5.out hc
  have hfe : (s5.fe == 0) = false := eqF hc
  have hfe' : (s5.fe != 0) = true := neF hc
  have hn : nmd n5 = ⟨false, false, false, false, false⟩ := by rw [hk]; exact nmd0
  have HDR : Hid (decR l = decE l ⟨n3, n4, ⟨n5, ord0, drv0, 0, 0⟩⟩ s5) := Lib.hid (by unfold decR; rw [if_neg (by rw [D3]; exact fun a => hc a.1)]; simp only [D1, D2, D3, decS, o4, o5, o6, o7, hn]; simp)
  have HFE := Lib.hid hfe
  have k1 : (n5 == 1) = false := by rw [hk]; rfl
  have k3 : (n5 == 3) = false := by rw [hk]; rfl
  have k5 : (n5 == 5) = false := by rw [hk]; rfl
  have k6 : (n5 == 6) = false := by rw [hk]; rfl
  clear hc hn hfe' D3 D2 D1 hk
  obtain ⟨_, _, ⟨g0_, g1_, g2_, g3_⟩, _⟩ := R5.out.cells
  have hne_ : ¬ g = w2.heap.size := (by omega)
  have hne2_ : ¬ w2.heap.size = g := (by omega)
  go_wp2_with fail
  refine (rNum_ex g b l s5 _ (R5.out.ext ((Ext.refl (fun k => k = w2.heap.size) w5).setCell (p := ⟨w2.heap.size, 2, none⟩) (.inl rfl) (.int .i64 n5)) (by omega) (by omega))).mono ?_
  rintro e w6 ⟨n6, s6, e6, rfl, r6, x6⟩
  have B6 : Hid (Blk w6 w2.heap.size #[.int .i64 n3, .int .i64 n4, .int .i64 n5, .int .i64 0, .int .i64 0, .int .i64 0, .int .i64 0, .int .i64 0, .int .i64 0, .int .i64 0, .int .i64 0, .int .i64 0, .int .i64 0, .int .i64 0, .int .i64 0, .int .i64 0, .int .i64 0, .int .i64 0, .bool false, .int .i64 0, .int .i64 0] 70) := Lib.hid ((show Blk _ w2.heap.size #[.int .i64 n3, .int .i64 n4, .int .i64 n5, .int .i64 0, .int .i64 0, .int .i64 0, .int .i64 0, .int .i64 0, .int .i64 0, .int .i64 0, .int .i64 0, .int .i64 0, .int .i64 0, .int .i64 0, .int .i64 0, .int .i64 0, .int .i64 0, .int .i64 0, .bool false, .int .i64 0, .int .i64 0] 70 from (show Blk _ w2.heap.size #[.int .i64 n3, .int .i64 n4, .int .i64 n5, .int .i64 0, .int .i64 0, .int .i64 0, .int .i64 0, .int .i64 0, .int .i64 0, .int .i64 0, .int .i64 0, .int .i64 0, .int .i64 0, .int .i64 0, .int .i64 0, .int .i64 0, .int .i64 0, .int .i64 0, .bool false, .int .i64 0, .int .i64 0] 70 from (B5.out.set 2 (.int .i64 n5)))).ext x6 (by omega))
  have A6 : Hid (Blk w6 w.heap.size #[.int .i64 0, .int .i64 0, .int .i64 0, .int .i64 0, .int .i64 0, .int .i64 0, .int .i64 0, .int .i64 0, .int .i64 0, .int .i64 0, .int .i64 0, .int .i64 0, .int .i64 0, .int .i64 0, .int .i64 0, .int .i64 0, .int .i64 0, .int .i64 0, .bool false, .int .i64 0, .int .i64 0] 70) := Lib.hid ((A5.out.far (p := ⟨w2.heap.size, 2, none⟩) (by show w.heap.size ≠ w2.heap.size; omega) (.int .i64 n5)).ext x6 (by omega))
  have X6 : Hid (Ext None_ w w6) := Lib.hid ((X5.out.setCell (p := ⟨w2.heap.size, 2, none⟩) (.inr (by show w.heap.size ≤ w2.heap.size; omega)) (.int .i64 n5)).trans x6 (fun i hi e => by exfalso; omega))
  have R6 := Lib.hid r6
  clear x6 r6 A5 B5 R5 X5
  have E6 := Lib.hid e6
  clear e6
  clear bc bf
  have bc := B6.out.cell
  have bf := B6.out.frozen
  clear g0_ g1_ g2_ g3_
  have hz_ : n6 = 0 ∧ s6 = s5 := by have h := E6.out; rw [NumR_bad0 (by have := HFE.out; simpa using this)] at h; simp only [Prod.mk.injEq] at h; exact ⟨h.1.symm, h.2.symm⟩
  obtain ⟨hz1_, hz2_⟩ := hz_
  have HZ1 := Lib.hid hz1_
  subst hz2_
  clear hz1_
  go_wp2_with fail
  refine (rEnd_any g b l s6 _ (R6.out.ext ((Ext.refl (fun k => k = w2.heap.size) w6).setCell (p := ⟨w2.heap.size, 19, none⟩) (.inl rfl) (.int .i64 n6)) (by omega) (by omega))).mono ?_
  rintro e w7 ⟨rfl, r7, x7⟩
  have B7 : Hid (Blk w7 w2.heap.size #[.int .i64 n3, .int .i64 n4, .int .i64 n5, .int .i64 0, .int .i64 0, .int .i64 0, .int .i64 0, .int .i64 0, .int .i64 0, .int .i64 0, .int .i64 0, .int .i64 0, .int .i64 0, .int .i64 0, .int .i64 0, .int .i64 0, .int .i64 0, .int .i64 0, .bool false, .int .i64 n6, .int .i64 0] 70) := Lib.hid ((show Blk _ w2.heap.size #[.int .i64 n3, .int .i64 n4, .int .i64 n5, .int .i64 0, .int .i64 0, .int .i64 0, .int .i64 0, .int .i64 0, .int .i64 0, .int .i64 0, .int .i64 0, .int .i64 0, .int .i64 0, .int .i64 0, .int .i64 0, .int .i64 0, .int .i64 0, .int .i64 0, .bool false, .int .i64 n6, .int .i64 0] 70 from (show Blk _ w2.heap.size #[.int .i64 n3, .int .i64 n4, .int .i64 n5, .int .i64 0, .int .i64 0, .int .i64 0, .int .i64 0, .int .i64 0, .int .i64 0, .int .i64 0, .int .i64 0, .int .i64 0, .int .i64 0, .int .i64 0, .int .i64 0, .int .i64 0, .int .i64 0, .int .i64 0, .bool false, .int .i64 n6, .int .i64 0] 70 from (B6.out.set 19 (.int .i64 n6)))).ext x7 (by omega))
  have A7 : Hid (Blk w7 w.heap.size #[.int .i64 0, .int .i64 0, .int .i64 0, .int .i64 0, .int .i64 0, .int .i64 0, .int .i64 0, .int .i64 0, .int .i64 0, .int .i64 0, .int .i64 0, .int .i64 0, .int .i64 0, .int .i64 0, .int .i64 0, .int .i64 0, .int .i64 0, .int .i64 0, .bool false, .int .i64 0, .int .i64 0] 70) := Lib.hid ((A6.out.far (p := ⟨w2.heap.size, 19, none⟩) (by show w.heap.size ≠ w2.heap.size; omega) (.int .i64 n6)).ext x7 (by omega))
  have X7 : Hid (Ext None_ w w7) := Lib.hid ((X6.out.setCell (p := ⟨w2.heap.size, 19, none⟩) (.inr (by show w.heap.size ≤ w2.heap.size; omega)) (.int .i64 n6)).trans x7 (fun i hi e => by exfalso; omega))
  have R7 := Lib.hid r7
  clear x7 r7 bc bf A6 B6 R6 X6
  by_cases he : (EndR l s6).fe = 0
  · have he1 : ((EndR l s6).fe != 0) = false := neT he
    have HE := Lib.hid he
    clear he
    exfalso
    have h1 := HE.out
    have h2 := HFE.out
    simp only [EndR] at h1
    rw [if_neg (fun a => by rw [a.1] at h2; cases h2)] at h1
    rw [h1] at h2
    cases h2
  · have he1 : ((EndR l s6).fe != 0) = true := neF he
    have HE := Lib.hid he
    obtain ⟨ef, hef⟩ : ∃ ef, ef = (EndR l s6).fe := ⟨_, rfl⟩
    rw [← hef] at he1 ⊢
    have HEF := Lib.hid hef
    clear he hef
    have AA := Lib.hid A7.out
    have BB := Lib.hid B7.out
    have XX := Lib.hid X7.out
    go_wp2_with ((refine wpList_store_blk rfl 70 (.tmp 2) (.tmp 77) rfl w.heap.size #[.int .i64 0, .int .i64 0, .int .i64 0, .int .i64 0, .int .i64 0, .int .i64 0, .int .i64 0, .int .i64 0, .int .i64 0, .int .i64 0, .int .i64 0, .int .i64 0, .int .i64 0, .int .i64 0, .int .i64 0, .int .i64 0, .int .i64 0, .int .i64 0, .bool false, .int .i64 0, .int .i64 0] rfl rfl 70 #[.int .i64 0, .int .i64 0, .int .i64 0, .int .i64 0, .int .i64 0, .int .i64 0, .int .i64 0, .int .i64 0, .int .i64 0, .int .i64 0, .int .i64 0, .int .i64 0, .int .i64 0, .int .i64 0, .int .i64 0, .int .i64 0, .int .i64 0, .int .i64 0, .bool false, .int .i64 0, .int .i64 0] AA.out rqSize rfl rfl ?_; intro wz bz xz; have BZ := Lib.hid bz; have XZ := Lib.hid xz; clear bz xz))
    exact bodyPost_ret (v := .tuple #[.agg #[.int .i64 0, .int .i64 0, .int .i64 0, .int .i64 0, .int .i64 0, .int .i64 0, .int .i64 0, .int .i64 0, .int .i64 0, .int .i64 0, .int .i64 0, .int .i64 0, .int .i64 0, .int .i64 0, .int .i64 0, .int .i64 0, .int .i64 0, .int .i64 0, .bool false, .int .i64 0, .int .i64 0], .int .i64 ef]) (results2_blk rfl _ _ w.heap.size 70 _ _ rfl rfl BZ.out Try.underlying70 rfl rqSize) rfl ⟨ret_dec (q := rq0) (e := ef) (by rw [HDR.out, HEF.out]; exact decE_bad HE.out), XX.out.trans XZ.out (fun i hi e => by exfalso; omega)⟩

set_option maxRecDepth 100000 in
set_option maxHeartbeats 16000000 in
theorem rdecodeB_any (s : ByteArray) (w : World) (hs : s.size ≤ 140737488355328) (hc : (d3 (bytesOf s)).2.fe = 0 ∧ (nmd (d3 (bytesOf s)).1).ok = false) :
    Calls Try.prog 53 #[.string s] w fun e w' => e = .returned (.tuple #[.agg (decR (bytesOf s)).1.cells, .int .i64 (decR (bytesOf s)).2]) ∧ Ext None_ w w' := by
  obtain ⟨A, c, W1, hconv, hx1, hrow, hsz⟩ := conv_bytes (w.alloc (.cells #[.int .i64 0, .int .i64 0, .int .i64 0, .int .i64 0, .int .i64 0, .int .i64 0, .int .i64 0, .int .i64 0, .int .i64 0, .int .i64 0, .int .i64 0, .int .i64 0, .int .i64 0, .int .i64 0, .int .i64 0, .int .i64 0, .int .i64 0, .int .i64 0, .bool false, .int .i64 0, .int .i64 0] 70)) s
  rw [show (w.alloc (.cells #[.int .i64 0, .int .i64 0, .int .i64 0, .int .i64 0, .int .i64 0, .int .i64 0, .int .i64 0, .int .i64 0, .int .i64 0, .int .i64 0, .int .i64 0, .int .i64 0, .int .i64 0, .int .i64 0, .int .i64 0, .int .i64 0, .int .i64 0, .int .i64 0, .bool false, .int .i64 0, .int .i64 0] 70)).heap.size = w.heap.size + 1 from by simp] at hsz
  have hln := bytesOf_length s
  have hby := Byt_of s
  obtain ⟨l, hl⟩ : ∃ l, l = bytesOf s := ⟨_, rfl⟩
  rw [← hl] at hconv hrow hln hby hc ⊢
  have HC := Lib.hid hc
  have HX1 := Lib.hid hx1
  have HROW := Lib.hid hrow
  have HLN := Lib.hid hln
  have HBY := Lib.hid hby
  have HSZ := Lib.hid hsz
  have hz1 : w.heap.size < W1.heap.size := by omega
  clear hx1 hrow hl hsz hc hln hby
  go_enter Try.func53, Try.ntmps53
  go_wp2_with fail
  refine (rRead_any A c l _ HROW.out HBY.out (by rw [HLN.out]; exact hs)).mono ?_
  rintro e w2 ⟨g, b, rfl, r0, hg, hb, x0_⟩
  have R0 := Lib.hid r0
  have hlt := r0.lt.1
  have hlt2 := r0.lt.2.1
  have hz2 : W1.heap.size ≤ w2.heap.size := x0_.size
  have A0 : Hid (Blk w2 w.heap.size #[.int .i64 0, .int .i64 0, .int .i64 0, .int .i64 0, .int .i64 0, .int .i64 0, .int .i64 0, .int .i64 0, .int .i64 0, .int .i64 0, .int .i64 0, .int .i64 0, .int .i64 0, .int .i64 0, .int .i64 0, .int .i64 0, .int .i64 0, .int .i64 0, .bool false, .int .i64 0, .int .i64 0] 70) := Lib.hid (((Blk.new w #[.int .i64 0, .int .i64 0, .int .i64 0, .int .i64 0, .int .i64 0, .int .i64 0, .int .i64 0, .int .i64 0, .int .i64 0, .int .i64 0, .int .i64 0, .int .i64 0, .int .i64 0, .int .i64 0, .int .i64 0, .int .i64 0, .int .i64 0, .int .i64 0, .bool false, .int .i64 0, .int .i64 0] 70).ext0 HX1.out).ext0 x0_)
  have X0 : Hid (Ext None_ w w2) := Lib.hid ((((x0 _ _).trans0 HX1.out)).trans0 x0_)
  clear x0_ r0 hconv HROW HX1
  have R0' := Lib.hid (R0.out.ext0 (x0 w2 (.cells #[.int .i64 0, .int .i64 0, .int .i64 0, .int .i64 0, .int .i64 0, .int .i64 0, .int .i64 0, .int .i64 0, .int .i64 0, .int .i64 0, .int .i64 0, .int .i64 0, .int .i64 0, .int .i64 0, .int .i64 0, .int .i64 0, .int .i64 0, .int .i64 0, .bool false, .int .i64 0, .int .i64 0] 70)))
  have A0' := Lib.hid (A0.out.alloc (.cells #[.int .i64 0, .int .i64 0, .int .i64 0, .int .i64 0, .int .i64 0, .int .i64 0, .int .i64 0, .int .i64 0, .int .i64 0, .int .i64 0, .int .i64 0, .int .i64 0, .int .i64 0, .int .i64 0, .int .i64 0, .int .i64 0, .int .i64 0, .int .i64 0, .bool false, .int .i64 0, .int .i64 0] 70))
  have X0' := Lib.hid (X0.out.alloc (.cells #[.int .i64 0, .int .i64 0, .int .i64 0, .int .i64 0, .int .i64 0, .int .i64 0, .int .i64 0, .int .i64 0, .int .i64 0, .int .i64 0, .int .i64 0, .int .i64 0, .int .i64 0, .int .i64 0, .int .i64 0, .int .i64 0, .int .i64 0, .int .i64 0, .bool false, .int .i64 0, .int .i64 0] 70))
  have B0 := Lib.hid (Blk.new w2 #[.int .i64 0, .int .i64 0, .int .i64 0, .int .i64 0, .int .i64 0, .int .i64 0, .int .i64 0, .int .i64 0, .int .i64 0, .int .i64 0, .int .i64 0, .int .i64 0, .int .i64 0, .int .i64 0, .int .i64 0, .int .i64 0, .int .i64 0, .int .i64 0, .bool false, .int .i64 0, .int .i64 0] 70)
  clear R0 A0 X0
  go_wp2_with fail
  refine (rNum_ex g b l ⟨0, 0, 0⟩ _ R0'.out).mono ?_
  rintro e w3 ⟨n3, s3, e3, rfl, r3, x3⟩
  have B3 : Hid (Blk w3 w2.heap.size #[.int .i64 0, .int .i64 0, .int .i64 0, .int .i64 0, .int .i64 0, .int .i64 0, .int .i64 0, .int .i64 0, .int .i64 0, .int .i64 0, .int .i64 0, .int .i64 0, .int .i64 0, .int .i64 0, .int .i64 0, .int .i64 0, .int .i64 0, .int .i64 0, .bool false, .int .i64 0, .int .i64 0] 70) := Lib.hid ((show Blk _ w2.heap.size #[.int .i64 0, .int .i64 0, .int .i64 0, .int .i64 0, .int .i64 0, .int .i64 0, .int .i64 0, .int .i64 0, .int .i64 0, .int .i64 0, .int .i64 0, .int .i64 0, .int .i64 0, .int .i64 0, .int .i64 0, .int .i64 0, .int .i64 0, .int .i64 0, .bool false, .int .i64 0, .int .i64 0] 70 from B0.out).ext x3 (by omega))
  have A3 : Hid (Blk w3 w.heap.size #[.int .i64 0, .int .i64 0, .int .i64 0, .int .i64 0, .int .i64 0, .int .i64 0, .int .i64 0, .int .i64 0, .int .i64 0, .int .i64 0, .int .i64 0, .int .i64 0, .int .i64 0, .int .i64 0, .int .i64 0, .int .i64 0, .int .i64 0, .int .i64 0, .bool false, .int .i64 0, .int .i64 0] 70) := Lib.hid (A0'.out.ext x3 (by omega))
  have X3 : Hid (Ext None_ w w3) := Lib.hid (X0'.out.trans x3 (fun i hi e => by exfalso; omega))
  have R3 := Lib.hid r3
  clear x3 r3 A0' B0 R0' X0'
  have E3 := Lib.hid e3
  clear e3
  have bc := B3.out.cell
  have bf := B3.out.frozen
  go_wp2_with fail
  refine (rNum_ex g b l s3 _ (R3.out.ext ((Ext.refl (fun k => k = w2.heap.size) w3).setCell (p := ⟨w2.heap.size, 0, none⟩) (.inl rfl) (.int .i64 n3)) (by omega) (by omega))).mono ?_
  rintro e w4 ⟨n4, s4, e4, rfl, r4, x4⟩
  have B4 : Hid (Blk w4 w2.heap.size #[.int .i64 n3, .int .i64 0, .int .i64 0, .int .i64 0, .int .i64 0, .int .i64 0, .int .i64 0, .int .i64 0, .int .i64 0, .int .i64 0, .int .i64 0, .int .i64 0, .int .i64 0, .int .i64 0, .int .i64 0, .int .i64 0, .int .i64 0, .int .i64 0, .bool false, .int .i64 0, .int .i64 0] 70) := Lib.hid ((show Blk _ w2.heap.size #[.int .i64 n3, .int .i64 0, .int .i64 0, .int .i64 0, .int .i64 0, .int .i64 0, .int .i64 0, .int .i64 0, .int .i64 0, .int .i64 0, .int .i64 0, .int .i64 0, .int .i64 0, .int .i64 0, .int .i64 0, .int .i64 0, .int .i64 0, .int .i64 0, .bool false, .int .i64 0, .int .i64 0] 70 from (show Blk _ w2.heap.size #[.int .i64 n3, .int .i64 0, .int .i64 0, .int .i64 0, .int .i64 0, .int .i64 0, .int .i64 0, .int .i64 0, .int .i64 0, .int .i64 0, .int .i64 0, .int .i64 0, .int .i64 0, .int .i64 0, .int .i64 0, .int .i64 0, .int .i64 0, .int .i64 0, .bool false, .int .i64 0, .int .i64 0] 70 from (B3.out.set 0 (.int .i64 n3)))).ext x4 (by omega))
  have A4 : Hid (Blk w4 w.heap.size #[.int .i64 0, .int .i64 0, .int .i64 0, .int .i64 0, .int .i64 0, .int .i64 0, .int .i64 0, .int .i64 0, .int .i64 0, .int .i64 0, .int .i64 0, .int .i64 0, .int .i64 0, .int .i64 0, .int .i64 0, .int .i64 0, .int .i64 0, .int .i64 0, .bool false, .int .i64 0, .int .i64 0] 70) := Lib.hid ((A3.out.far (p := ⟨w2.heap.size, 0, none⟩) (by show w.heap.size ≠ w2.heap.size; omega) (.int .i64 n3)).ext x4 (by omega))
  have X4 : Hid (Ext None_ w w4) := Lib.hid ((X3.out.setCell (p := ⟨w2.heap.size, 0, none⟩) (.inr (by show w.heap.size ≤ w2.heap.size; omega)) (.int .i64 n3)).trans x4 (fun i hi e => by exfalso; omega))
  have R4 := Lib.hid r4
  clear x4 r4 A3 B3 R3 X3
  have E4 := Lib.hid e4
  clear e4
  clear bc bf
  have bc := B4.out.cell
  have bf := B4.out.frozen
  go_wp2_with fail
  refine (rNum_ex g b l s4 _ (R4.out.ext ((Ext.refl (fun k => k = w2.heap.size) w4).setCell (p := ⟨w2.heap.size, 1, none⟩) (.inl rfl) (.int .i64 n4)) (by omega) (by omega))).mono ?_
  rintro e w5 ⟨n5, s5, e5, rfl, r5, x5⟩
  have B5 : Hid (Blk w5 w2.heap.size #[.int .i64 n3, .int .i64 n4, .int .i64 0, .int .i64 0, .int .i64 0, .int .i64 0, .int .i64 0, .int .i64 0, .int .i64 0, .int .i64 0, .int .i64 0, .int .i64 0, .int .i64 0, .int .i64 0, .int .i64 0, .int .i64 0, .int .i64 0, .int .i64 0, .bool false, .int .i64 0, .int .i64 0] 70) := Lib.hid ((show Blk _ w2.heap.size #[.int .i64 n3, .int .i64 n4, .int .i64 0, .int .i64 0, .int .i64 0, .int .i64 0, .int .i64 0, .int .i64 0, .int .i64 0, .int .i64 0, .int .i64 0, .int .i64 0, .int .i64 0, .int .i64 0, .int .i64 0, .int .i64 0, .int .i64 0, .int .i64 0, .bool false, .int .i64 0, .int .i64 0] 70 from (show Blk _ w2.heap.size #[.int .i64 n3, .int .i64 n4, .int .i64 0, .int .i64 0, .int .i64 0, .int .i64 0, .int .i64 0, .int .i64 0, .int .i64 0, .int .i64 0, .int .i64 0, .int .i64 0, .int .i64 0, .int .i64 0, .int .i64 0, .int .i64 0, .int .i64 0, .int .i64 0, .bool false, .int .i64 0, .int .i64 0] 70 from (B4.out.set 1 (.int .i64 n4)))).ext x5 (by omega))
  have A5 : Hid (Blk w5 w.heap.size #[.int .i64 0, .int .i64 0, .int .i64 0, .int .i64 0, .int .i64 0, .int .i64 0, .int .i64 0, .int .i64 0, .int .i64 0, .int .i64 0, .int .i64 0, .int .i64 0, .int .i64 0, .int .i64 0, .int .i64 0, .int .i64 0, .int .i64 0, .int .i64 0, .bool false, .int .i64 0, .int .i64 0] 70) := Lib.hid ((A4.out.far (p := ⟨w2.heap.size, 1, none⟩) (by show w.heap.size ≠ w2.heap.size; omega) (.int .i64 n4)).ext x5 (by omega))
  have X5 : Hid (Ext None_ w w5) := Lib.hid ((X4.out.setCell (p := ⟨w2.heap.size, 1, none⟩) (.inr (by show w.heap.size ≤ w2.heap.size; omega)) (.int .i64 n4)).trans x5 (fun i hi e => by exfalso; omega))
  have R5 := Lib.hid r5
  clear x5 r5 A4 B4 R4 X4
  have E5 := Lib.hid e5
  clear e5
  clear bc bf
  have bc := B5.out.cell
  have bf := B5.out.frozen
  have D3 : d3 l = (n5, s5) := by unfold d3 d2 d1; rw [E3.out, E4.out, E5.out]
  have D2 : d2 l = (n4, s4) := by unfold d2 d1; rw [E3.out, E4.out]
  have D1 : d1 l = (n3, s3) := E3.out
  have hc := HC.out
  rw [D3] at hc
  have hfe : (s5.fe == 0) = true := eqT hc.1
  have hfe' : (s5.fe != 0) = false := neT hc.1
  have hn : nmd n5 = ⟨false, false, false, false, false⟩ := (by have h7 := hc.2; revert h7; unfold nmd; (repeat' split) <;> simp)
  have HDR : Hid (decR l = (rq0, 4)) := Lib.hid (by unfold decR; rw [if_pos (by rw [D3]; exact hc)])
  have HFE := Lib.hid hfe
  have hk2 : n5 < 1 ∨ 7 < n5 := (by rcases Int.lt_or_le n5 1 with a | a; (exact .inl a); rcases Int.lt_or_le 7 n5 with a' | a'; (exact .inr a'); exfalso; have h7 := hc.2; have h8 : n5 = 1 ∨ n5 = 2 ∨ n5 = 3 ∨ n5 = 4 ∨ n5 = 5 ∨ n5 = 6 ∨ n5 = 7 := (by omega); rcases h8 with h8 | h8 | h8 | h8 | h8 | h8 | h8 <;> rw [h8] at h7 <;> simp [nmd] at h7)
  clear hc hn hfe' D3 D2 D1
  obtain ⟨_, _, ⟨g0_, g1_, g2_, g3_⟩, _⟩ := R5.out.cells
  have hne_ : ¬ g = w2.heap.size := (by omega)
  have hne2_ : ¬ w2.heap.size = g := (by omega)
  rcases hk2 with hk2 | hk2
  · have kl : decide (n5 < 1) = true := decide_eq_true hk2
    clear hk2
    have AA := Lib.hid (A5.out.far (p := ⟨w2.heap.size, 2, none⟩) (by show w.heap.size ≠ w2.heap.size; omega) (.int .i64 n5))
    have BB := Lib.hid (show Blk _ w2.heap.size #[.int .i64 n3, .int .i64 n4, .int .i64 n5, .int .i64 0, .int .i64 0, .int .i64 0, .int .i64 0, .int .i64 0, .int .i64 0, .int .i64 0, .int .i64 0, .int .i64 0, .int .i64 0, .int .i64 0, .int .i64 0, .int .i64 0, .int .i64 0, .int .i64 0, .bool false, .int .i64 0, .int .i64 0] 70 from (show Blk _ w2.heap.size #[.int .i64 n3, .int .i64 n4, .int .i64 n5, .int .i64 0, .int .i64 0, .int .i64 0, .int .i64 0, .int .i64 0, .int .i64 0, .int .i64 0, .int .i64 0, .int .i64 0, .int .i64 0, .int .i64 0, .int .i64 0, .int .i64 0, .int .i64 0, .int .i64 0, .bool false, .int .i64 0, .int .i64 0] 70 from (B5.out.set 2 (.int .i64 n5))))
    have XX := Lib.hid (X5.out.setCell (p := ⟨w2.heap.size, 2, none⟩) (.inr (by show w.heap.size ≤ w2.heap.size; omega)) (.int .i64 n5))
    go_wp2_with ((refine wpList_store_blk rfl 70 (.tmp 2) (.tmp 37) rfl w.heap.size #[.int .i64 0, .int .i64 0, .int .i64 0, .int .i64 0, .int .i64 0, .int .i64 0, .int .i64 0, .int .i64 0, .int .i64 0, .int .i64 0, .int .i64 0, .int .i64 0, .int .i64 0, .int .i64 0, .int .i64 0, .int .i64 0, .int .i64 0, .int .i64 0, .bool false, .int .i64 0, .int .i64 0] rfl rfl 70 #[.int .i64 0, .int .i64 0, .int .i64 0, .int .i64 0, .int .i64 0, .int .i64 0, .int .i64 0, .int .i64 0, .int .i64 0, .int .i64 0, .int .i64 0, .int .i64 0, .int .i64 0, .int .i64 0, .int .i64 0, .int .i64 0, .int .i64 0, .int .i64 0, .bool false, .int .i64 0, .int .i64 0] AA.out rqSize rfl rfl ?_; intro wz bz xz; have BZ := Lib.hid bz; have XZ := Lib.hid xz; clear bz xz))
    exact bodyPost_ret (v := .tuple #[.agg #[.int .i64 0, .int .i64 0, .int .i64 0, .int .i64 0, .int .i64 0, .int .i64 0, .int .i64 0, .int .i64 0, .int .i64 0, .int .i64 0, .int .i64 0, .int .i64 0, .int .i64 0, .int .i64 0, .int .i64 0, .int .i64 0, .int .i64 0, .int .i64 0, .bool false, .int .i64 0, .int .i64 0], .int .i64 4]) (results2_blk rfl _ _ w.heap.size 70 _ _ rfl rfl BZ.out Try.underlying70 rfl rqSize) rfl ⟨ret_dec (q := rq0) (e := 4) HDR.out, XX.out.trans XZ.out (fun i hi e => by exfalso; omega)⟩
  · have kl : decide (n5 < 1) = false := decide_eq_false (by omega)
    have kg : decide (7 < n5) = true := decide_eq_true hk2
    clear hk2
    have AA := Lib.hid (A5.out.far (p := ⟨w2.heap.size, 2, none⟩) (by show w.heap.size ≠ w2.heap.size; omega) (.int .i64 n5))
    have BB := Lib.hid (show Blk _ w2.heap.size #[.int .i64 n3, .int .i64 n4, .int .i64 n5, .int .i64 0, .int .i64 0, .int .i64 0, .int .i64 0, .int .i64 0, .int .i64 0, .int .i64 0, .int .i64 0, .int .i64 0, .int .i64 0, .int .i64 0, .int .i64 0, .int .i64 0, .int .i64 0, .int .i64 0, .bool false, .int .i64 0, .int .i64 0] 70 from (show Blk _ w2.heap.size #[.int .i64 n3, .int .i64 n4, .int .i64 n5, .int .i64 0, .int .i64 0, .int .i64 0, .int .i64 0, .int .i64 0, .int .i64 0, .int .i64 0, .int .i64 0, .int .i64 0, .int .i64 0, .int .i64 0, .int .i64 0, .int .i64 0, .int .i64 0, .int .i64 0, .bool false, .int .i64 0, .int .i64 0] 70 from (B5.out.set 2 (.int .i64 n5))))
    have XX := Lib.hid (X5.out.setCell (p := ⟨w2.heap.size, 2, none⟩) (.inr (by show w.heap.size ≤ w2.heap.size; omega)) (.int .i64 n5))
    go_wp2_with ((refine wpList_store_blk rfl 70 (.tmp 2) (.tmp 37) rfl w.heap.size #[.int .i64 0, .int .i64 0, .int .i64 0, .int .i64 0, .int .i64 0, .int .i64 0, .int .i64 0, .int .i64 0, .int .i64 0, .int .i64 0, .int .i64 0, .int .i64 0, .int .i64 0, .int .i64 0, .int .i64 0, .int .i64 0, .int .i64 0, .int .i64 0, .bool false, .int .i64 0, .int .i64 0] rfl rfl 70 #[.int .i64 0, .int .i64 0, .int .i64 0, .int .i64 0, .int .i64 0, .int .i64 0, .int .i64 0, .int .i64 0, .int .i64 0, .int .i64 0, .int .i64 0, .int .i64 0, .int .i64 0, .int .i64 0, .int .i64 0, .int .i64 0, .int .i64 0, .int .i64 0, .bool false, .int .i64 0, .int .i64 0] AA.out rqSize rfl rfl ?_; intro wz bz xz; have BZ := Lib.hid bz; have XZ := Lib.hid xz; clear bz xz))
    exact bodyPost_ret (v := .tuple #[.agg #[.int .i64 0, .int .i64 0, .int .i64 0, .int .i64 0, .int .i64 0, .int .i64 0, .int .i64 0, .int .i64 0, .int .i64 0, .int .i64 0, .int .i64 0, .int .i64 0, .int .i64 0, .int .i64 0, .int .i64 0, .int .i64 0, .int .i64 0, .int .i64 0, .bool false, .int .i64 0, .int .i64 0], .int .i64 4]) (results2_blk rfl _ _ w.heap.size 70 _ _ rfl rfl BZ.out Try.underlying70 rfl rqSize) rfl ⟨ret_dec (q := rq0) (e := 4) HDR.out, XX.out.trans XZ.out (fun i hi e => by exfalso; omega)⟩

set_option maxRecDepth 100000 in
set_option maxHeartbeats 16000000 in
theorem rdecode1_any (s : ByteArray) (w : World) (hs : s.size ≤ 140737488355328) (hc : (d3 (bytesOf s)).2.fe = 0 ∧ (d3 (bytesOf s)).1 = 1) :
    Calls Try.prog 53 #[.string s] w fun e w' => e = .returned (.tuple #[.agg (decR (bytesOf s)).1.cells, .int .i64 (decR (bytesOf s)).2]) ∧ Ext None_ w w' := by
  obtain ⟨A, c, W1, hconv, hx1, hrow, hsz⟩ := conv_bytes (w.alloc (.cells #[.int .i64 0, .int .i64 0, .int .i64 0, .int .i64 0, .int .i64 0, .int .i64 0, .int .i64 0, .int .i64 0, .int .i64 0, .int .i64 0, .int .i64 0, .int .i64 0, .int .i64 0, .int .i64 0, .int .i64 0, .int .i64 0, .int .i64 0, .int .i64 0, .bool false, .int .i64 0, .int .i64 0] 70)) s
  rw [show (w.alloc (.cells #[.int .i64 0, .int .i64 0, .int .i64 0, .int .i64 0, .int .i64 0, .int .i64 0, .int .i64 0, .int .i64 0, .int .i64 0, .int .i64 0, .int .i64 0, .int .i64 0, .int .i64 0, .int .i64 0, .int .i64 0, .int .i64 0, .int .i64 0, .int .i64 0, .bool false, .int .i64 0, .int .i64 0] 70)).heap.size = w.heap.size + 1 from by simp] at hsz
  have hln := bytesOf_length s
  have hby := Byt_of s
  obtain ⟨l, hl⟩ : ∃ l, l = bytesOf s := ⟨_, rfl⟩
  rw [← hl] at hconv hrow hln hby hc ⊢
  have HC := Lib.hid hc
  have HX1 := Lib.hid hx1
  have HROW := Lib.hid hrow
  have HLN := Lib.hid hln
  have HBY := Lib.hid hby
  have HSZ := Lib.hid hsz
  have hz1 : w.heap.size < W1.heap.size := by omega
  clear hx1 hrow hl hsz hc hln hby
  go_enter Try.func53, Try.ntmps53
  go_wp2_with fail
  refine (rRead_any A c l _ HROW.out HBY.out (by rw [HLN.out]; exact hs)).mono ?_
  rintro e w2 ⟨g, b, rfl, r0, hg, hb, x0_⟩
  have R0 := Lib.hid r0
  have hlt := r0.lt.1
  have hlt2 := r0.lt.2.1
  have hz2 : W1.heap.size ≤ w2.heap.size := x0_.size
  have A0 : Hid (Blk w2 w.heap.size #[.int .i64 0, .int .i64 0, .int .i64 0, .int .i64 0, .int .i64 0, .int .i64 0, .int .i64 0, .int .i64 0, .int .i64 0, .int .i64 0, .int .i64 0, .int .i64 0, .int .i64 0, .int .i64 0, .int .i64 0, .int .i64 0, .int .i64 0, .int .i64 0, .bool false, .int .i64 0, .int .i64 0] 70) := Lib.hid (((Blk.new w #[.int .i64 0, .int .i64 0, .int .i64 0, .int .i64 0, .int .i64 0, .int .i64 0, .int .i64 0, .int .i64 0, .int .i64 0, .int .i64 0, .int .i64 0, .int .i64 0, .int .i64 0, .int .i64 0, .int .i64 0, .int .i64 0, .int .i64 0, .int .i64 0, .bool false, .int .i64 0, .int .i64 0] 70).ext0 HX1.out).ext0 x0_)
  have X0 : Hid (Ext None_ w w2) := Lib.hid ((((x0 _ _).trans0 HX1.out)).trans0 x0_)
  clear x0_ r0 hconv HROW HX1
  have R0' := Lib.hid (R0.out.ext0 (x0 w2 (.cells #[.int .i64 0, .int .i64 0, .int .i64 0, .int .i64 0, .int .i64 0, .int .i64 0, .int .i64 0, .int .i64 0, .int .i64 0, .int .i64 0, .int .i64 0, .int .i64 0, .int .i64 0, .int .i64 0, .int .i64 0, .int .i64 0, .int .i64 0, .int .i64 0, .bool false, .int .i64 0, .int .i64 0] 70)))
  have A0' := Lib.hid (A0.out.alloc (.cells #[.int .i64 0, .int .i64 0, .int .i64 0, .int .i64 0, .int .i64 0, .int .i64 0, .int .i64 0, .int .i64 0, .int .i64 0, .int .i64 0, .int .i64 0, .int .i64 0, .int .i64 0, .int .i64 0, .int .i64 0, .int .i64 0, .int .i64 0, .int .i64 0, .bool false, .int .i64 0, .int .i64 0] 70))
  have X0' := Lib.hid (X0.out.alloc (.cells #[.int .i64 0, .int .i64 0, .int .i64 0, .int .i64 0, .int .i64 0, .int .i64 0, .int .i64 0, .int .i64 0, .int .i64 0, .int .i64 0, .int .i64 0, .int .i64 0, .int .i64 0, .int .i64 0, .int .i64 0, .int .i64 0, .int .i64 0, .int .i64 0, .bool false, .int .i64 0, .int .i64 0] 70))
  have B0 := Lib.hid (Blk.new w2 #[.int .i64 0, .int .i64 0, .int .i64 0, .int .i64 0, .int .i64 0, .int .i64 0, .int .i64 0, .int .i64 0, .int .i64 0, .int .i64 0, .int .i64 0, .int .i64 0, .int .i64 0, .int .i64 0, .int .i64 0, .int .i64 0, .int .i64 0, .int .i64 0, .bool false, .int .i64 0, .int .i64 0] 70)
  clear R0 A0 X0
  go_wp2_with fail
  refine (rNum_ex g b l ⟨0, 0, 0⟩ _ R0'.out).mono ?_
  rintro e w3 ⟨n3, s3, e3, rfl, r3, x3⟩
  have B3 : Hid (Blk w3 w2.heap.size #[.int .i64 0, .int .i64 0, .int .i64 0, .int .i64 0, .int .i64 0, .int .i64 0, .int .i64 0, .int .i64 0, .int .i64 0, .int .i64 0, .int .i64 0, .int .i64 0, .int .i64 0, .int .i64 0, .int .i64 0, .int .i64 0, .int .i64 0, .int .i64 0, .bool false, .int .i64 0, .int .i64 0] 70) := Lib.hid ((show Blk _ w2.heap.size #[.int .i64 0, .int .i64 0, .int .i64 0, .int .i64 0, .int .i64 0, .int .i64 0, .int .i64 0, .int .i64 0, .int .i64 0, .int .i64 0, .int .i64 0, .int .i64 0, .int .i64 0, .int .i64 0, .int .i64 0, .int .i64 0, .int .i64 0, .int .i64 0, .bool false, .int .i64 0, .int .i64 0] 70 from B0.out).ext x3 (by omega))
  have A3 : Hid (Blk w3 w.heap.size #[.int .i64 0, .int .i64 0, .int .i64 0, .int .i64 0, .int .i64 0, .int .i64 0, .int .i64 0, .int .i64 0, .int .i64 0, .int .i64 0, .int .i64 0, .int .i64 0, .int .i64 0, .int .i64 0, .int .i64 0, .int .i64 0, .int .i64 0, .int .i64 0, .bool false, .int .i64 0, .int .i64 0] 70) := Lib.hid (A0'.out.ext x3 (by omega))
  have X3 : Hid (Ext None_ w w3) := Lib.hid (X0'.out.trans x3 (fun i hi e => by exfalso; omega))
  have R3 := Lib.hid r3
  clear x3 r3 A0' B0 R0' X0'
  have E3 := Lib.hid e3
  clear e3
  have bc := B3.out.cell
  have bf := B3.out.frozen
  go_wp2_with fail
  refine (rNum_ex g b l s3 _ (R3.out.ext ((Ext.refl (fun k => k = w2.heap.size) w3).setCell (p := ⟨w2.heap.size, 0, none⟩) (.inl rfl) (.int .i64 n3)) (by omega) (by omega))).mono ?_
  rintro e w4 ⟨n4, s4, e4, rfl, r4, x4⟩
  have B4 : Hid (Blk w4 w2.heap.size #[.int .i64 n3, .int .i64 0, .int .i64 0, .int .i64 0, .int .i64 0, .int .i64 0, .int .i64 0, .int .i64 0, .int .i64 0, .int .i64 0, .int .i64 0, .int .i64 0, .int .i64 0, .int .i64 0, .int .i64 0, .int .i64 0, .int .i64 0, .int .i64 0, .bool false, .int .i64 0, .int .i64 0] 70) := Lib.hid ((show Blk _ w2.heap.size #[.int .i64 n3, .int .i64 0, .int .i64 0, .int .i64 0, .int .i64 0, .int .i64 0, .int .i64 0, .int .i64 0, .int .i64 0, .int .i64 0, .int .i64 0, .int .i64 0, .int .i64 0, .int .i64 0, .int .i64 0, .int .i64 0, .int .i64 0, .int .i64 0, .bool false, .int .i64 0, .int .i64 0] 70 from (show Blk _ w2.heap.size #[.int .i64 n3, .int .i64 0, .int .i64 0, .int .i64 0, .int .i64 0, .int .i64 0, .int .i64 0, .int .i64 0, .int .i64 0, .int .i64 0, .int .i64 0, .int .i64 0, .int .i64 0, .int .i64 0, .int .i64 0, .int .i64 0, .int .i64 0, .int .i64 0, .bool false, .int .i64 0, .int .i64 0] 70 from (B3.out.set 0 (.int .i64 n3)))).ext x4 (by omega))
  have A4 : Hid (Blk w4 w.heap.size #[.int .i64 0, .int .i64 0, .int .i64 0, .int .i64 0, .int .i64 0, .int .i64 0, .int .i64 0, .int .i64 0, .int .i64 0, .int .i64 0, .int .i64 0, .int .i64 0, .int .i64 0, .int .i64 0, .int .i64 0, .int .i64 0, .int .i64 0, .int .i64 0, .bool false, .int .i64 0, .int .i64 0] 70) := Lib.hid ((A3.out.far (p := ⟨w2.heap.size, 0, none⟩) (by show w.heap.size ≠ w2.heap.size; omega) (.int .i64 n3)).ext x4 (by omega))
  have X4 : Hid (Ext None_ w w4) := Lib.hid ((X3.out.setCell (p := ⟨w2.heap.size, 0, none⟩) (.inr (by show w.heap.size ≤ w2.heap.size; omega)) (.int .i64 n3)).trans x4 (fun i hi e => by exfalso; omega))
  have R4 := Lib.hid r4
  clear x4 r4 A3 B3 R3 X3
  have E4 := Lib.hid e4
  clear e4
  clear bc bf
  have bc := B4.out.cell
  have bf := B4.out.frozen
  go_wp2_with fail
  refine (rNum_ex g b l s4 _ (R4.out.ext ((Ext.refl (fun k => k = w2.heap.size) w4).setCell (p := ⟨w2.heap.size, 1, none⟩) (.inl rfl) (.int .i64 n4)) (by omega) (by omega))).mono ?_
  rintro e w5 ⟨n5, s5, e5, rfl, r5, x5⟩
  have B5 : Hid (Blk w5 w2.heap.size #[.int .i64 n3, .int .i64 n4, .int .i64 0, .int .i64 0, .int .i64 0, .int .i64 0, .int .i64 0, .int .i64 0, .int .i64 0, .int .i64 0, .int .i64 0, .int .i64 0, .int .i64 0, .int .i64 0, .int .i64 0, .int .i64 0, .int .i64 0, .int .i64 0, .bool false, .int .i64 0, .int .i64 0] 70) := Lib.hid ((show Blk _ w2.heap.size #[.int .i64 n3, .int .i64 n4, .int .i64 0, .int .i64 0, .int .i64 0, .int .i64 0, .int .i64 0, .int .i64 0, .int .i64 0, .int .i64 0, .int .i64 0, .int .i64 0, .int .i64 0, .int .i64 0, .int .i64 0, .int .i64 0, .int .i64 0, .int .i64 0, .bool false, .int .i64 0, .int .i64 0] 70 from (show Blk _ w2.heap.size #[.int .i64 n3, .int .i64 n4, .int .i64 0, .int .i64 0, .int .i64 0, .int .i64 0, .int .i64 0, .int .i64 0, .int .i64 0, .int .i64 0, .int .i64 0, .int .i64 0, .int .i64 0, .int .i64 0, .int .i64 0, .int .i64 0, .int .i64 0, .int .i64 0, .bool false, .int .i64 0, .int .i64 0] 70 from (B4.out.set 1 (.int .i64 n4)))).ext x5 (by omega))
  have A5 : Hid (Blk w5 w.heap.size #[.int .i64 0, .int .i64 0, .int .i64 0, .int .i64 0, .int .i64 0, .int .i64 0, .int .i64 0, .int .i64 0, .int .i64 0, .int .i64 0, .int .i64 0, .int .i64 0, .int .i64 0, .int .i64 0, .int .i64 0, .int .i64 0, .int .i64 0, .int .i64 0, .bool false, .int .i64 0, .int .i64 0] 70) := Lib.hid ((A4.out.far (p := ⟨w2.heap.size, 1, none⟩) (by show w.heap.size ≠ w2.heap.size; omega) (.int .i64 n4)).ext x5 (by omega))
  have X5 : Hid (Ext None_ w w5) := Lib.hid ((X4.out.setCell (p := ⟨w2.heap.size, 1, none⟩) (.inr (by show w.heap.size ≤ w2.heap.size; omega)) (.int .i64 n4)).trans x5 (fun i hi e => by exfalso; omega))
  have R5 := Lib.hid r5
  clear x5 r5 A4 B4 R4 X4
  have E5 := Lib.hid e5
  clear e5
  clear bc bf
  have bc := B5.out.cell
  have bf := B5.out.frozen
  have D3 : d3 l = (n5, s5) := by unfold d3 d2 d1; rw [E3.out, E4.out, E5.out]
  have D2 : d2 l = (n4, s4) := by unfold d2 d1; rw [E3.out, E4.out]
  have D1 : d1 l = (n3, s3) := E3.out
  have hc := HC.out
  rw [D3] at hc
  have hfe : (s5.fe == 0) = true := eqT hc.1
  have hfe' : (s5.fe != 0) = false := neT hc.1
  have hk : n5 = 1 := hc.2
  have hn : nmd n5 = ⟨true, false, false, false, true⟩ := by rw [hk]; simp [nmd]
  have HFE := Lib.hid hfe
  have k1 : (n5 == 1) = true := by rw [hk]; rfl
  have k3 : (n5 == 3) = false := by rw [hk]; rfl
  have k5 : (n5 == 5) = false := by rw [hk]; rfl
  have k6 : (n5 == 6) = false := by rw [hk]; rfl
  have kl : decide (n5 < 1) = false := by rw [hk]; rfl
  have kg : decide (7 < n5) = false := by rw [hk]; rfl
  have HK : Hid (n5 = 1 ∧ nmd n5 = ⟨true, false, false, false, true⟩ ∧ s5.fe = 0 ∧ d3 l = (n5, s5) ∧ d2 l = (n4, s4) ∧ d1 l = (n3, s3)) := Lib.hid ⟨hk, hn, hc.1, D3, D2, D1⟩
  clear hc hn hfe' D3 D2 D1 hk
  obtain ⟨_, _, ⟨g0_, g1_, g2_, g3_⟩, _⟩ := R5.out.cells
  have hne_ : ¬ g = w2.heap.size := (by omega)
  have hne2_ : ¬ w2.heap.size = g := (by omega)
  go_wp2_with fail
  refine (rgetOrd_any g b l s5 _ (R5.out.ext ((Ext.refl (fun k => k = w2.heap.size) w5).setCell (p := ⟨w2.heap.size, 2, none⟩) (.inl rfl) (.int .i64 n5)) (by omega) (by omega))).mono ?_
  rintro e w6 ⟨n6, s6, e6, rfl, r6, x6⟩
  have B6 : Hid (Blk w6 w2.heap.size #[.int .i64 n3, .int .i64 n4, .int .i64 n5, .int .i64 0, .int .i64 0, .int .i64 0, .int .i64 0, .int .i64 0, .int .i64 0, .int .i64 0, .int .i64 0, .int .i64 0, .int .i64 0, .int .i64 0, .int .i64 0, .int .i64 0, .int .i64 0, .int .i64 0, .bool false, .int .i64 0, .int .i64 0] 70) := Lib.hid ((show Blk _ w2.heap.size #[.int .i64 n3, .int .i64 n4, .int .i64 n5, .int .i64 0, .int .i64 0, .int .i64 0, .int .i64 0, .int .i64 0, .int .i64 0, .int .i64 0, .int .i64 0, .int .i64 0, .int .i64 0, .int .i64 0, .int .i64 0, .int .i64 0, .int .i64 0, .int .i64 0, .bool false, .int .i64 0, .int .i64 0] 70 from (show Blk _ w2.heap.size #[.int .i64 n3, .int .i64 n4, .int .i64 n5, .int .i64 0, .int .i64 0, .int .i64 0, .int .i64 0, .int .i64 0, .int .i64 0, .int .i64 0, .int .i64 0, .int .i64 0, .int .i64 0, .int .i64 0, .int .i64 0, .int .i64 0, .int .i64 0, .int .i64 0, .bool false, .int .i64 0, .int .i64 0] 70 from (B5.out.set 2 (.int .i64 n5)))).ext x6 (by omega))
  have A6 : Hid (Blk w6 w.heap.size #[.int .i64 0, .int .i64 0, .int .i64 0, .int .i64 0, .int .i64 0, .int .i64 0, .int .i64 0, .int .i64 0, .int .i64 0, .int .i64 0, .int .i64 0, .int .i64 0, .int .i64 0, .int .i64 0, .int .i64 0, .int .i64 0, .int .i64 0, .int .i64 0, .bool false, .int .i64 0, .int .i64 0] 70) := Lib.hid ((A5.out.far (p := ⟨w2.heap.size, 2, none⟩) (by show w.heap.size ≠ w2.heap.size; omega) (.int .i64 n5)).ext x6 (by omega))
  have X6 : Hid (Ext None_ w w6) := Lib.hid ((X5.out.setCell (p := ⟨w2.heap.size, 2, none⟩) (.inr (by show w.heap.size ≤ w2.heap.size; omega)) (.int .i64 n5)).trans x6 (fun i hi e => by exfalso; omega))
  have R6 := Lib.hid r6
  clear x6 r6 A5 B5 R5 X5
  have E6 := Lib.hid e6
  clear e6
  clear bc bf
  have bc := B6.out.cell
  have bf := B6.out.frozen
  clear g0_ g1_ g2_ g3_
  have HDR : Hid (decR l = decE l (⟨n3, n4, ⟨n5, n6, drv0, 0, 0⟩⟩ : Rq) s6) := Lib.hid (by obtain ⟨hk, hn, h0, D3, D2, D1⟩ := HK.out; have po4 : o4 l n5 s5 = (n6, s6) := (by unfold o4; rw [hn]; first | done | exact E6.out); have po5 : o5 l n5 s6 = (drv0, s6) := (by unfold o5; rw [hn]; first | done | rfl); have po6 : o6 l n5 s6 = (0, s6) := (by unfold o6; rw [hn]; first | done | rfl); have po7 : o7 l n5 s6 = (0, s6) := (by unfold o7; rw [hn]; first | done | rfl); unfold decR; rw [D3, D2, D1, if_neg (by rw [hn]; exact fun a => by cases a.2)]; simp only [decS, po4, po5, po6, po7])
  go_wp2_with fail
  refine (rEnd_any g b l s6 _ (R6.out.ext (((((((((((Ext.refl (fun k => k = w2.heap.size) w6).setCell (p := ⟨w2.heap.size, 3, none⟩) (.inl rfl) (.int .i64 n6.id)).setCell (p := ⟨w2.heap.size, 4, none⟩) (.inl rfl) (.int .i64 n6.size)).setCell (p := ⟨w2.heap.size, 5, none⟩) (.inl rfl) (.int .i64 n6.pick.p)).setCell (p := ⟨w2.heap.size, 6, none⟩) (.inl rfl) (.int .i64 n6.pick.f)).setCell (p := ⟨w2.heap.size, 7, none⟩) (.inl rfl) (.int .i64 n6.pick.t)).setCell (p := ⟨w2.heap.size, 8, none⟩) (.inl rfl) (.int .i64 n6.pick.s)).setCell (p := ⟨w2.heap.size, 9, none⟩) (.inl rfl) (.int .i64 n6.drop.p)).setCell (p := ⟨w2.heap.size, 10, none⟩) (.inl rfl) (.int .i64 n6.drop.f)).setCell (p := ⟨w2.heap.size, 11, none⟩) (.inl rfl) (.int .i64 n6.drop.t)).setCell (p := ⟨w2.heap.size, 12, none⟩) (.inl rfl) (.int .i64 n6.drop.s)) (by omega) (by omega))).mono ?_
  rintro e w7 ⟨rfl, r7, x7⟩
  have B7 : Hid (Blk w7 w2.heap.size #[.int .i64 n3, .int .i64 n4, .int .i64 n5, .int .i64 n6.id, .int .i64 n6.size, .int .i64 n6.pick.p, .int .i64 n6.pick.f, .int .i64 n6.pick.t, .int .i64 n6.pick.s, .int .i64 n6.drop.p, .int .i64 n6.drop.f, .int .i64 n6.drop.t, .int .i64 n6.drop.s, .int .i64 0, .int .i64 0, .int .i64 0, .int .i64 0, .int .i64 0, .bool false, .int .i64 0, .int .i64 0] 70) := Lib.hid ((show Blk _ w2.heap.size #[.int .i64 n3, .int .i64 n4, .int .i64 n5, .int .i64 n6.id, .int .i64 n6.size, .int .i64 n6.pick.p, .int .i64 n6.pick.f, .int .i64 n6.pick.t, .int .i64 n6.pick.s, .int .i64 n6.drop.p, .int .i64 n6.drop.f, .int .i64 n6.drop.t, .int .i64 n6.drop.s, .int .i64 0, .int .i64 0, .int .i64 0, .int .i64 0, .int .i64 0, .bool false, .int .i64 0, .int .i64 0] 70 from (show Blk _ w2.heap.size #[.int .i64 n3, .int .i64 n4, .int .i64 n5, .int .i64 n6.id, .int .i64 n6.size, .int .i64 n6.pick.p, .int .i64 n6.pick.f, .int .i64 n6.pick.t, .int .i64 n6.pick.s, .int .i64 n6.drop.p, .int .i64 n6.drop.f, .int .i64 n6.drop.t, .int .i64 n6.drop.s, .int .i64 0, .int .i64 0, .int .i64 0, .int .i64 0, .int .i64 0, .bool false, .int .i64 0, .int .i64 0] 70 from ((show Blk _ w2.heap.size #[.int .i64 n3, .int .i64 n4, .int .i64 n5, .int .i64 n6.id, .int .i64 n6.size, .int .i64 n6.pick.p, .int .i64 n6.pick.f, .int .i64 n6.pick.t, .int .i64 n6.pick.s, .int .i64 n6.drop.p, .int .i64 n6.drop.f, .int .i64 n6.drop.t, .int .i64 0, .int .i64 0, .int .i64 0, .int .i64 0, .int .i64 0, .int .i64 0, .bool false, .int .i64 0, .int .i64 0] 70 from ((show Blk _ w2.heap.size #[.int .i64 n3, .int .i64 n4, .int .i64 n5, .int .i64 n6.id, .int .i64 n6.size, .int .i64 n6.pick.p, .int .i64 n6.pick.f, .int .i64 n6.pick.t, .int .i64 n6.pick.s, .int .i64 n6.drop.p, .int .i64 n6.drop.f, .int .i64 0, .int .i64 0, .int .i64 0, .int .i64 0, .int .i64 0, .int .i64 0, .int .i64 0, .bool false, .int .i64 0, .int .i64 0] 70 from ((show Blk _ w2.heap.size #[.int .i64 n3, .int .i64 n4, .int .i64 n5, .int .i64 n6.id, .int .i64 n6.size, .int .i64 n6.pick.p, .int .i64 n6.pick.f, .int .i64 n6.pick.t, .int .i64 n6.pick.s, .int .i64 n6.drop.p, .int .i64 0, .int .i64 0, .int .i64 0, .int .i64 0, .int .i64 0, .int .i64 0, .int .i64 0, .int .i64 0, .bool false, .int .i64 0, .int .i64 0] 70 from ((show Blk _ w2.heap.size #[.int .i64 n3, .int .i64 n4, .int .i64 n5, .int .i64 n6.id, .int .i64 n6.size, .int .i64 n6.pick.p, .int .i64 n6.pick.f, .int .i64 n6.pick.t, .int .i64 n6.pick.s, .int .i64 0, .int .i64 0, .int .i64 0, .int .i64 0, .int .i64 0, .int .i64 0, .int .i64 0, .int .i64 0, .int .i64 0, .bool false, .int .i64 0, .int .i64 0] 70 from ((show Blk _ w2.heap.size #[.int .i64 n3, .int .i64 n4, .int .i64 n5, .int .i64 n6.id, .int .i64 n6.size, .int .i64 n6.pick.p, .int .i64 n6.pick.f, .int .i64 n6.pick.t, .int .i64 0, .int .i64 0, .int .i64 0, .int .i64 0, .int .i64 0, .int .i64 0, .int .i64 0, .int .i64 0, .int .i64 0, .int .i64 0, .bool false, .int .i64 0, .int .i64 0] 70 from ((show Blk _ w2.heap.size #[.int .i64 n3, .int .i64 n4, .int .i64 n5, .int .i64 n6.id, .int .i64 n6.size, .int .i64 n6.pick.p, .int .i64 n6.pick.f, .int .i64 0, .int .i64 0, .int .i64 0, .int .i64 0, .int .i64 0, .int .i64 0, .int .i64 0, .int .i64 0, .int .i64 0, .int .i64 0, .int .i64 0, .bool false, .int .i64 0, .int .i64 0] 70 from ((show Blk _ w2.heap.size #[.int .i64 n3, .int .i64 n4, .int .i64 n5, .int .i64 n6.id, .int .i64 n6.size, .int .i64 n6.pick.p, .int .i64 0, .int .i64 0, .int .i64 0, .int .i64 0, .int .i64 0, .int .i64 0, .int .i64 0, .int .i64 0, .int .i64 0, .int .i64 0, .int .i64 0, .int .i64 0, .bool false, .int .i64 0, .int .i64 0] 70 from ((show Blk _ w2.heap.size #[.int .i64 n3, .int .i64 n4, .int .i64 n5, .int .i64 n6.id, .int .i64 n6.size, .int .i64 0, .int .i64 0, .int .i64 0, .int .i64 0, .int .i64 0, .int .i64 0, .int .i64 0, .int .i64 0, .int .i64 0, .int .i64 0, .int .i64 0, .int .i64 0, .int .i64 0, .bool false, .int .i64 0, .int .i64 0] 70 from ((show Blk _ w2.heap.size #[.int .i64 n3, .int .i64 n4, .int .i64 n5, .int .i64 n6.id, .int .i64 0, .int .i64 0, .int .i64 0, .int .i64 0, .int .i64 0, .int .i64 0, .int .i64 0, .int .i64 0, .int .i64 0, .int .i64 0, .int .i64 0, .int .i64 0, .int .i64 0, .int .i64 0, .bool false, .int .i64 0, .int .i64 0] 70 from (B6.out.set 3 (.int .i64 n6.id))).set 4 (.int .i64 n6.size))).set 5 (.int .i64 n6.pick.p))).set 6 (.int .i64 n6.pick.f))).set 7 (.int .i64 n6.pick.t))).set 8 (.int .i64 n6.pick.s))).set 9 (.int .i64 n6.drop.p))).set 10 (.int .i64 n6.drop.f))).set 11 (.int .i64 n6.drop.t))).set 12 (.int .i64 n6.drop.s)))).ext x7 (by omega))
  have A7 : Hid (Blk w7 w.heap.size #[.int .i64 0, .int .i64 0, .int .i64 0, .int .i64 0, .int .i64 0, .int .i64 0, .int .i64 0, .int .i64 0, .int .i64 0, .int .i64 0, .int .i64 0, .int .i64 0, .int .i64 0, .int .i64 0, .int .i64 0, .int .i64 0, .int .i64 0, .int .i64 0, .bool false, .int .i64 0, .int .i64 0] 70) := Lib.hid (((((((((((A6.out.far (p := ⟨w2.heap.size, 3, none⟩) (by show w.heap.size ≠ w2.heap.size; omega) (.int .i64 n6.id)).far (p := ⟨w2.heap.size, 4, none⟩) (by show w.heap.size ≠ w2.heap.size; omega) (.int .i64 n6.size)).far (p := ⟨w2.heap.size, 5, none⟩) (by show w.heap.size ≠ w2.heap.size; omega) (.int .i64 n6.pick.p)).far (p := ⟨w2.heap.size, 6, none⟩) (by show w.heap.size ≠ w2.heap.size; omega) (.int .i64 n6.pick.f)).far (p := ⟨w2.heap.size, 7, none⟩) (by show w.heap.size ≠ w2.heap.size; omega) (.int .i64 n6.pick.t)).far (p := ⟨w2.heap.size, 8, none⟩) (by show w.heap.size ≠ w2.heap.size; omega) (.int .i64 n6.pick.s)).far (p := ⟨w2.heap.size, 9, none⟩) (by show w.heap.size ≠ w2.heap.size; omega) (.int .i64 n6.drop.p)).far (p := ⟨w2.heap.size, 10, none⟩) (by show w.heap.size ≠ w2.heap.size; omega) (.int .i64 n6.drop.f)).far (p := ⟨w2.heap.size, 11, none⟩) (by show w.heap.size ≠ w2.heap.size; omega) (.int .i64 n6.drop.t)).far (p := ⟨w2.heap.size, 12, none⟩) (by show w.heap.size ≠ w2.heap.size; omega) (.int .i64 n6.drop.s)).ext x7 (by omega))
  have X7 : Hid (Ext None_ w w7) := Lib.hid (((((((((((X6.out.setCell (p := ⟨w2.heap.size, 3, none⟩) (.inr (by show w.heap.size ≤ w2.heap.size; omega)) (.int .i64 n6.id)).setCell (p := ⟨w2.heap.size, 4, none⟩) (.inr (by show w.heap.size ≤ w2.heap.size; omega)) (.int .i64 n6.size)).setCell (p := ⟨w2.heap.size, 5, none⟩) (.inr (by show w.heap.size ≤ w2.heap.size; omega)) (.int .i64 n6.pick.p)).setCell (p := ⟨w2.heap.size, 6, none⟩) (.inr (by show w.heap.size ≤ w2.heap.size; omega)) (.int .i64 n6.pick.f)).setCell (p := ⟨w2.heap.size, 7, none⟩) (.inr (by show w.heap.size ≤ w2.heap.size; omega)) (.int .i64 n6.pick.t)).setCell (p := ⟨w2.heap.size, 8, none⟩) (.inr (by show w.heap.size ≤ w2.heap.size; omega)) (.int .i64 n6.pick.s)).setCell (p := ⟨w2.heap.size, 9, none⟩) (.inr (by show w.heap.size ≤ w2.heap.size; omega)) (.int .i64 n6.drop.p)).setCell (p := ⟨w2.heap.size, 10, none⟩) (.inr (by show w.heap.size ≤ w2.heap.size; omega)) (.int .i64 n6.drop.f)).setCell (p := ⟨w2.heap.size, 11, none⟩) (.inr (by show w.heap.size ≤ w2.heap.size; omega)) (.int .i64 n6.drop.t)).setCell (p := ⟨w2.heap.size, 12, none⟩) (.inr (by show w.heap.size ≤ w2.heap.size; omega)) (.int .i64 n6.drop.s)).trans x7 (fun i hi e => by exfalso; omega))
  have R7 := Lib.hid r7
  clear x7 r7 bc bf A6 B6 R6 X6
  by_cases he : (EndR l s6).fe = 0
  · have he1 : ((EndR l s6).fe != 0) = false := neT he
    have HE := Lib.hid he
    clear he
    have AA := Lib.hid A7.out
    have BB := Lib.hid B7.out
    have XX := Lib.hid X7.out
    go_wp2_with (first | (refine wpList_load_row rfl 70 (.tmp 5) rfl w2.heap.size rfl 70 _ (0, 0) _ BB.out Try.underlying70 rfl rqSize ?_) | (refine wpList_store_blk rfl 70 (.tmp 2) (.tmp 79) rfl w.heap.size #[.int .i64 n3, .int .i64 n4, .int .i64 n5, .int .i64 n6.id, .int .i64 n6.size, .int .i64 n6.pick.p, .int .i64 n6.pick.f, .int .i64 n6.pick.t, .int .i64 n6.pick.s, .int .i64 n6.drop.p, .int .i64 n6.drop.f, .int .i64 n6.drop.t, .int .i64 n6.drop.s, .int .i64 0, .int .i64 0, .int .i64 0, .int .i64 0, .int .i64 0, .bool false, .int .i64 0, .int .i64 0] rfl rfl 70 #[.int .i64 0, .int .i64 0, .int .i64 0, .int .i64 0, .int .i64 0, .int .i64 0, .int .i64 0, .int .i64 0, .int .i64 0, .int .i64 0, .int .i64 0, .int .i64 0, .int .i64 0, .int .i64 0, .int .i64 0, .int .i64 0, .int .i64 0, .int .i64 0, .bool false, .int .i64 0, .int .i64 0] AA.out rqSize rfl rfl ?_; intro wz bz xz; have BZ := Lib.hid bz; have XZ := Lib.hid xz; clear bz xz))
    exact bodyPost_ret (v := .tuple #[.agg #[.int .i64 n3, .int .i64 n4, .int .i64 n5, .int .i64 n6.id, .int .i64 n6.size, .int .i64 n6.pick.p, .int .i64 n6.pick.f, .int .i64 n6.pick.t, .int .i64 n6.pick.s, .int .i64 n6.drop.p, .int .i64 n6.drop.f, .int .i64 n6.drop.t, .int .i64 n6.drop.s, .int .i64 0, .int .i64 0, .int .i64 0, .int .i64 0, .int .i64 0, .bool false, .int .i64 0, .int .i64 0], .int .i64 0]) (results2_blk rfl _ _ w.heap.size 70 _ _ rfl rfl BZ.out Try.underlying70 rfl rqSize) rfl ⟨ret_dec (q := (⟨n3, n4, ⟨n5, n6, drv0, 0, 0⟩⟩ : Rq)) (e := 0) (by rw [HDR.out]; exact decE_ok HE.out), XX.out.trans XZ.out (fun i hi e => by exfalso; omega)⟩
  · have he1 : ((EndR l s6).fe != 0) = true := neF he
    have HE := Lib.hid he
    obtain ⟨ef, hef⟩ : ∃ ef, ef = (EndR l s6).fe := ⟨_, rfl⟩
    rw [← hef] at he1 ⊢
    have HEF := Lib.hid hef
    clear he hef
    have AA := Lib.hid A7.out
    have BB := Lib.hid B7.out
    have XX := Lib.hid X7.out
    go_wp2_with ((refine wpList_store_blk rfl 70 (.tmp 2) (.tmp 77) rfl w.heap.size #[.int .i64 0, .int .i64 0, .int .i64 0, .int .i64 0, .int .i64 0, .int .i64 0, .int .i64 0, .int .i64 0, .int .i64 0, .int .i64 0, .int .i64 0, .int .i64 0, .int .i64 0, .int .i64 0, .int .i64 0, .int .i64 0, .int .i64 0, .int .i64 0, .bool false, .int .i64 0, .int .i64 0] rfl rfl 70 #[.int .i64 0, .int .i64 0, .int .i64 0, .int .i64 0, .int .i64 0, .int .i64 0, .int .i64 0, .int .i64 0, .int .i64 0, .int .i64 0, .int .i64 0, .int .i64 0, .int .i64 0, .int .i64 0, .int .i64 0, .int .i64 0, .int .i64 0, .int .i64 0, .bool false, .int .i64 0, .int .i64 0] AA.out rqSize rfl rfl ?_; intro wz bz xz; have BZ := Lib.hid bz; have XZ := Lib.hid xz; clear bz xz))
    exact bodyPost_ret (v := .tuple #[.agg #[.int .i64 0, .int .i64 0, .int .i64 0, .int .i64 0, .int .i64 0, .int .i64 0, .int .i64 0, .int .i64 0, .int .i64 0, .int .i64 0, .int .i64 0, .int .i64 0, .int .i64 0, .int .i64 0, .int .i64 0, .int .i64 0, .int .i64 0, .int .i64 0, .bool false, .int .i64 0, .int .i64 0], .int .i64 ef]) (results2_blk rfl _ _ w.heap.size 70 _ _ rfl rfl BZ.out Try.underlying70 rfl rqSize) rfl ⟨ret_dec (q := rq0) (e := ef) (by rw [HDR.out, HEF.out]; exact decE_bad HE.out), XX.out.trans XZ.out (fun i hi e => by exfalso; omega)⟩

set_option maxRecDepth 100000 in
set_option maxHeartbeats 16000000 in
theorem rdecode2_any (s : ByteArray) (w : World) (hs : s.size ≤ 140737488355328) (hc : (d3 (bytesOf s)).2.fe = 0 ∧ (d3 (bytesOf s)).1 = 2) :
    Calls Try.prog 53 #[.string s] w fun e w' => e = .returned (.tuple #[.agg (decR (bytesOf s)).1.cells, .int .i64 (decR (bytesOf s)).2]) ∧ Ext None_ w w' := by
  obtain ⟨A, c, W1, hconv, hx1, hrow, hsz⟩ := conv_bytes (w.alloc (.cells #[.int .i64 0, .int .i64 0, .int .i64 0, .int .i64 0, .int .i64 0, .int .i64 0, .int .i64 0, .int .i64 0, .int .i64 0, .int .i64 0, .int .i64 0, .int .i64 0, .int .i64 0, .int .i64 0, .int .i64 0, .int .i64 0, .int .i64 0, .int .i64 0, .bool false, .int .i64 0, .int .i64 0] 70)) s
  rw [show (w.alloc (.cells #[.int .i64 0, .int .i64 0, .int .i64 0, .int .i64 0, .int .i64 0, .int .i64 0, .int .i64 0, .int .i64 0, .int .i64 0, .int .i64 0, .int .i64 0, .int .i64 0, .int .i64 0, .int .i64 0, .int .i64 0, .int .i64 0, .int .i64 0, .int .i64 0, .bool false, .int .i64 0, .int .i64 0] 70)).heap.size = w.heap.size + 1 from by simp] at hsz
  have hln := bytesOf_length s
  have hby := Byt_of s
  obtain ⟨l, hl⟩ : ∃ l, l = bytesOf s := ⟨_, rfl⟩
  rw [← hl] at hconv hrow hln hby hc ⊢
  have HC := Lib.hid hc
  have HX1 := Lib.hid hx1
  have HROW := Lib.hid hrow
  have HLN := Lib.hid hln
  have HBY := Lib.hid hby
  have HSZ := Lib.hid hsz
  have hz1 : w.heap.size < W1.heap.size := by omega
  clear hx1 hrow hl hsz hc hln hby
  go_enter Try.func53, Try.ntmps53
  go_wp2_with fail
  refine (rRead_any A c l _ HROW.out HBY.out (by rw [HLN.out]; exact hs)).mono ?_
  rintro e w2 ⟨g, b, rfl, r0, hg, hb, x0_⟩
  have R0 := Lib.hid r0
  have hlt := r0.lt.1
  have hlt2 := r0.lt.2.1
  have hz2 : W1.heap.size ≤ w2.heap.size := x0_.size
  have A0 : Hid (Blk w2 w.heap.size #[.int .i64 0, .int .i64 0, .int .i64 0, .int .i64 0, .int .i64 0, .int .i64 0, .int .i64 0, .int .i64 0, .int .i64 0, .int .i64 0, .int .i64 0, .int .i64 0, .int .i64 0, .int .i64 0, .int .i64 0, .int .i64 0, .int .i64 0, .int .i64 0, .bool false, .int .i64 0, .int .i64 0] 70) := Lib.hid (((Blk.new w #[.int .i64 0, .int .i64 0, .int .i64 0, .int .i64 0, .int .i64 0, .int .i64 0, .int .i64 0, .int .i64 0, .int .i64 0, .int .i64 0, .int .i64 0, .int .i64 0, .int .i64 0, .int .i64 0, .int .i64 0, .int .i64 0, .int .i64 0, .int .i64 0, .bool false, .int .i64 0, .int .i64 0] 70).ext0 HX1.out).ext0 x0_)
  have X0 : Hid (Ext None_ w w2) := Lib.hid ((((x0 _ _).trans0 HX1.out)).trans0 x0_)
  clear x0_ r0 hconv HROW HX1
  have R0' := Lib.hid (R0.out.ext0 (x0 w2 (.cells #[.int .i64 0, .int .i64 0, .int .i64 0, .int .i64 0, .int .i64 0, .int .i64 0, .int .i64 0, .int .i64 0, .int .i64 0, .int .i64 0, .int .i64 0, .int .i64 0, .int .i64 0, .int .i64 0, .int .i64 0, .int .i64 0, .int .i64 0, .int .i64 0, .bool false, .int .i64 0, .int .i64 0] 70)))
  have A0' := Lib.hid (A0.out.alloc (.cells #[.int .i64 0, .int .i64 0, .int .i64 0, .int .i64 0, .int .i64 0, .int .i64 0, .int .i64 0, .int .i64 0, .int .i64 0, .int .i64 0, .int .i64 0, .int .i64 0, .int .i64 0, .int .i64 0, .int .i64 0, .int .i64 0, .int .i64 0, .int .i64 0, .bool false, .int .i64 0, .int .i64 0] 70))
  have X0' := Lib.hid (X0.out.alloc (.cells #[.int .i64 0, .int .i64 0, .int .i64 0, .int .i64 0, .int .i64 0, .int .i64 0, .int .i64 0, .int .i64 0, .int .i64 0, .int .i64 0, .int .i64 0, .int .i64 0, .int .i64 0, .int .i64 0, .int .i64 0, .int .i64 0, .int .i64 0, .int .i64 0, .bool false, .int .i64 0, .int .i64 0] 70))
  have B0 := Lib.hid (Blk.new w2 #[.int .i64 0, .int .i64 0, .int .i64 0, .int .i64 0, .int .i64 0, .int .i64 0, .int .i64 0, .int .i64 0, .int .i64 0, .int .i64 0, .int .i64 0, .int .i64 0, .int .i64 0, .int .i64 0, .int .i64 0, .int .i64 0, .int .i64 0, .int .i64 0, .bool false, .int .i64 0, .int .i64 0] 70)
  clear R0 A0 X0
  go_wp2_with fail
  refine (rNum_ex g b l ⟨0, 0, 0⟩ _ R0'.out).mono ?_
  rintro e w3 ⟨n3, s3, e3, rfl, r3, x3⟩
  have B3 : Hid (Blk w3 w2.heap.size #[.int .i64 0, .int .i64 0, .int .i64 0, .int .i64 0, .int .i64 0, .int .i64 0, .int .i64 0, .int .i64 0, .int .i64 0, .int .i64 0, .int .i64 0, .int .i64 0, .int .i64 0, .int .i64 0, .int .i64 0, .int .i64 0, .int .i64 0, .int .i64 0, .bool false, .int .i64 0, .int .i64 0] 70) := Lib.hid ((show Blk _ w2.heap.size #[.int .i64 0, .int .i64 0, .int .i64 0, .int .i64 0, .int .i64 0, .int .i64 0, .int .i64 0, .int .i64 0, .int .i64 0, .int .i64 0, .int .i64 0, .int .i64 0, .int .i64 0, .int .i64 0, .int .i64 0, .int .i64 0, .int .i64 0, .int .i64 0, .bool false, .int .i64 0, .int .i64 0] 70 from B0.out).ext x3 (by omega))
  have A3 : Hid (Blk w3 w.heap.size #[.int .i64 0, .int .i64 0, .int .i64 0, .int .i64 0, .int .i64 0, .int .i64 0, .int .i64 0, .int .i64 0, .int .i64 0, .int .i64 0, .int .i64 0, .int .i64 0, .int .i64 0, .int .i64 0, .int .i64 0, .int .i64 0, .int .i64 0, .int .i64 0, .bool false, .int .i64 0, .int .i64 0] 70) := Lib.hid (A0'.out.ext x3 (by omega))
  have X3 : Hid (Ext None_ w w3) := Lib.hid (X0'.out.trans x3 (fun i hi e => by exfalso; omega))
  have R3 := Lib.hid r3
  clear x3 r3 A0' B0 R0' X0'
  have E3 := Lib.hid e3
  clear e3
  have bc := B3.out.cell
  have bf := B3.out.frozen
  go_wp2_with fail
  refine (rNum_ex g b l s3 _ (R3.out.ext ((Ext.refl (fun k => k = w2.heap.size) w3).setCell (p := ⟨w2.heap.size, 0, none⟩) (.inl rfl) (.int .i64 n3)) (by omega) (by omega))).mono ?_
  rintro e w4 ⟨n4, s4, e4, rfl, r4, x4⟩
  have B4 : Hid (Blk w4 w2.heap.size #[.int .i64 n3, .int .i64 0, .int .i64 0, .int .i64 0, .int .i64 0, .int .i64 0, .int .i64 0, .int .i64 0, .int .i64 0, .int .i64 0, .int .i64 0, .int .i64 0, .int .i64 0, .int .i64 0, .int .i64 0, .int .i64 0, .int .i64 0, .int .i64 0, .bool false, .int .i64 0, .int .i64 0] 70) := Lib.hid ((show Blk _ w2.heap.size #[.int .i64 n3, .int .i64 0, .int .i64 0, .int .i64 0, .int .i64 0, .int .i64 0, .int .i64 0, .int .i64 0, .int .i64 0, .int .i64 0, .int .i64 0, .int .i64 0, .int .i64 0, .int .i64 0, .int .i64 0, .int .i64 0, .int .i64 0, .int .i64 0, .bool false, .int .i64 0, .int .i64 0] 70 from (show Blk _ w2.heap.size #[.int .i64 n3, .int .i64 0, .int .i64 0, .int .i64 0, .int .i64 0, .int .i64 0, .int .i64 0, .int .i64 0, .int .i64 0, .int .i64 0, .int .i64 0, .int .i64 0, .int .i64 0, .int .i64 0, .int .i64 0, .int .i64 0, .int .i64 0, .int .i64 0, .bool false, .int .i64 0, .int .i64 0] 70 from (B3.out.set 0 (.int .i64 n3)))).ext x4 (by omega))
  have A4 : Hid (Blk w4 w.heap.size #[.int .i64 0, .int .i64 0, .int .i64 0, .int .i64 0, .int .i64 0, .int .i64 0, .int .i64 0, .int .i64 0, .int .i64 0, .int .i64 0, .int .i64 0, .int .i64 0, .int .i64 0, .int .i64 0, .int .i64 0, .int .i64 0, .int .i64 0, .int .i64 0, .bool false, .int .i64 0, .int .i64 0] 70) := Lib.hid ((A3.out.far (p := ⟨w2.heap.size, 0, none⟩) (by show w.heap.size ≠ w2.heap.size; omega) (.int .i64 n3)).ext x4 (by omega))
  have X4 : Hid (Ext None_ w w4) := Lib.hid ((X3.out.setCell (p := ⟨w2.heap.size, 0, none⟩) (.inr (by show w.heap.size ≤ w2.heap.size; omega)) (.int .i64 n3)).trans x4 (fun i hi e => by exfalso; omega))
  have R4 := Lib.hid r4
  clear x4 r4 A3 B3 R3 X3
  have E4 := Lib.hid e4
  clear e4
  clear bc bf
  have bc := B4.out.cell
  have bf := B4.out.frozen
  go_wp2_with fail
  refine (rNum_ex g b l s4 _ (R4.out.ext ((Ext.refl (fun k => k = w2.heap.size) w4).setCell (p := ⟨w2.heap.size, 1, none⟩) (.inl rfl) (.int .i64 n4)) (by omega) (by omega))).mono ?_
  rintro e w5 ⟨n5, s5, e5, rfl, r5, x5⟩
  have B5 : Hid (Blk w5 w2.heap.size #[.int .i64 n3, .int .i64 n4, .int .i64 0, .int .i64 0, .int .i64 0, .int .i64 0, .int .i64 0, .int .i64 0, .int .i64 0, .int .i64 0, .int .i64 0, .int .i64 0, .int .i64 0, .int .i64 0, .int .i64 0, .int .i64 0, .int .i64 0, .int .i64 0, .bool false, .int .i64 0, .int .i64 0] 70) := Lib.hid ((show Blk _ w2.heap.size #[.int .i64 n3, .int .i64 n4, .int .i64 0, .int .i64 0, .int .i64 0, .int .i64 0, .int .i64 0, .int .i64 0, .int .i64 0, .int .i64 0, .int .i64 0, .int .i64 0, .int .i64 0, .int .i64 0, .int .i64 0, .int .i64 0, .int .i64 0, .int .i64 0, .bool false, .int .i64 0, .int .i64 0] 70 from (show Blk _ w2.heap.size #[.int .i64 n3, .int .i64 n4, .int .i64 0, .int .i64 0, .int .i64 0, .int .i64 0, .int .i64 0, .int .i64 0, .int .i64 0, .int .i64 0, .int .i64 0, .int .i64 0, .int .i64 0, .int .i64 0, .int .i64 0, .int .i64 0, .int .i64 0, .int .i64 0, .bool false, .int .i64 0, .int .i64 0] 70 from (B4.out.set 1 (.int .i64 n4)))).ext x5 (by omega))
  have A5 : Hid (Blk w5 w.heap.size #[.int .i64 0, .int .i64 0, .int .i64 0, .int .i64 0, .int .i64 0, .int .i64 0, .int .i64 0, .int .i64 0, .int .i64 0, .int .i64 0, .int .i64 0, .int .i64 0, .int .i64 0, .int .i64 0, .int .i64 0, .int .i64 0, .int .i64 0, .int .i64 0, .bool false, .int .i64 0, .int .i64 0] 70) := Lib.hid ((A4.out.far (p := ⟨w2.heap.size, 1, none⟩) (by show w.heap.size ≠ w2.heap.size; omega) (.int .i64 n4)).ext x5 (by omega))
  have X5 : Hid (Ext None_ w w5) := Lib.hid ((X4.out.setCell (p := ⟨w2.heap.size, 1, none⟩) (.inr (by show w.heap.size ≤ w2.heap.size; omega)) (.int .i64 n4)).trans x5 (fun i hi e => by exfalso; omega))
  have R5 := Lib.hid r5
  clear x5 r5 A4 B4 R4 X4
  have E5 := Lib.hid e5
  clear e5
  clear bc bf
  have bc := B5.out.cell
  have bf := B5.out.frozen
  have D3 : d3 l = (n5, s5) := by unfold d3 d2 d1; rw [E3.out, E4.out, E5.out]
  have D2 : d2 l = (n4, s4) := by unfold d2 d1; rw [E3.out, E4.out]
  have D1 : d1 l = (n3, s3) := E3.out
  have hc := HC.out
  rw [D3] at hc
  have hfe : (s5.fe == 0) = true := eqT hc.1
  have hfe' : (s5.fe != 0) = false := neT hc.1
  have hk : n5 = 2 := hc.2
  have hn : nmd n5 = ⟨false, false, true, false, true⟩ := by rw [hk]; simp [nmd]
  have HFE := Lib.hid hfe
  have k1 : (n5 == 1) = false := by rw [hk]; rfl
  have k3 : (n5 == 3) = false := by rw [hk]; rfl
  have k5 : (n5 == 5) = false := by rw [hk]; rfl
  have k6 : (n5 == 6) = false := by rw [hk]; rfl
  have kl : decide (n5 < 1) = false := by rw [hk]; rfl
  have kg : decide (7 < n5) = false := by rw [hk]; rfl
  have HK : Hid (n5 = 2 ∧ nmd n5 = ⟨false, false, true, false, true⟩ ∧ s5.fe = 0 ∧ d3 l = (n5, s5) ∧ d2 l = (n4, s4) ∧ d1 l = (n3, s3)) := Lib.hid ⟨hk, hn, hc.1, D3, D2, D1⟩
  clear hc hn hfe' D3 D2 D1 hk
  obtain ⟨_, _, ⟨g0_, g1_, g2_, g3_⟩, _⟩ := R5.out.cells
  have hne_ : ¬ g = w2.heap.size := (by omega)
  have hne2_ : ¬ w2.heap.size = g := (by omega)
  go_wp2_with fail
  refine (rNum_ex g b l s5 _ (R5.out.ext ((Ext.refl (fun k => k = w2.heap.size) w5).setCell (p := ⟨w2.heap.size, 2, none⟩) (.inl rfl) (.int .i64 n5)) (by omega) (by omega))).mono ?_
  rintro e w6 ⟨n6, s6, e6, rfl, r6, x6⟩
  have B6 : Hid (Blk w6 w2.heap.size #[.int .i64 n3, .int .i64 n4, .int .i64 n5, .int .i64 0, .int .i64 0, .int .i64 0, .int .i64 0, .int .i64 0, .int .i64 0, .int .i64 0, .int .i64 0, .int .i64 0, .int .i64 0, .int .i64 0, .int .i64 0, .int .i64 0, .int .i64 0, .int .i64 0, .bool false, .int .i64 0, .int .i64 0] 70) := Lib.hid ((show Blk _ w2.heap.size #[.int .i64 n3, .int .i64 n4, .int .i64 n5, .int .i64 0, .int .i64 0, .int .i64 0, .int .i64 0, .int .i64 0, .int .i64 0, .int .i64 0, .int .i64 0, .int .i64 0, .int .i64 0, .int .i64 0, .int .i64 0, .int .i64 0, .int .i64 0, .int .i64 0, .bool false, .int .i64 0, .int .i64 0] 70 from (show Blk _ w2.heap.size #[.int .i64 n3, .int .i64 n4, .int .i64 n5, .int .i64 0, .int .i64 0, .int .i64 0, .int .i64 0, .int .i64 0, .int .i64 0, .int .i64 0, .int .i64 0, .int .i64 0, .int .i64 0, .int .i64 0, .int .i64 0, .int .i64 0, .int .i64 0, .int .i64 0, .bool false, .int .i64 0, .int .i64 0] 70 from (B5.out.set 2 (.int .i64 n5)))).ext x6 (by omega))
  have A6 : Hid (Blk w6 w.heap.size #[.int .i64 0, .int .i64 0, .int .i64 0, .int .i64 0, .int .i64 0, .int .i64 0, .int .i64 0, .int .i64 0, .int .i64 0, .int .i64 0, .int .i64 0, .int .i64 0, .int .i64 0, .int .i64 0, .int .i64 0, .int .i64 0, .int .i64 0, .int .i64 0, .bool false, .int .i64 0, .int .i64 0] 70) := Lib.hid ((A5.out.far (p := ⟨w2.heap.size, 2, none⟩) (by show w.heap.size ≠ w2.heap.size; omega) (.int .i64 n5)).ext x6 (by omega))
  have X6 : Hid (Ext None_ w w6) := Lib.hid ((X5.out.setCell (p := ⟨w2.heap.size, 2, none⟩) (.inr (by show w.heap.size ≤ w2.heap.size; omega)) (.int .i64 n5)).trans x6 (fun i hi e => by exfalso; omega))
  have R6 := Lib.hid r6
  clear x6 r6 A5 B5 R5 X5
  have E6 := Lib.hid e6
  clear e6
  clear bc bf
  have bc := B6.out.cell
  have bf := B6.out.frozen
  clear g0_ g1_ g2_ g3_
  have HDR : Hid (decR l = decE l (⟨n3, n4, ⟨n5, ord0, drv0, n6, 0⟩⟩ : Rq) s6) := Lib.hid (by obtain ⟨hk, hn, h0, D3, D2, D1⟩ := HK.out; have po4 : o4 l n5 s5 = (ord0, s5) := (by unfold o4; rw [hn]; first | done | rfl); have po5 : o5 l n5 s5 = (drv0, s5) := (by unfold o5; rw [hn]; first | done | rfl); have po6 : o6 l n5 s5 = (n6, s6) := (by unfold o6; rw [hn]; first | done | exact E6.out); have po7 : o7 l n5 s6 = (0, s6) := (by unfold o7; rw [hn]; first | done | rfl); unfold decR; rw [D3, D2, D1, if_neg (by rw [hn]; exact fun a => by cases a.2)]; simp only [decS, po4, po5, po6, po7])
  go_wp2_with fail
  refine (rEnd_any g b l s6 _ (R6.out.ext ((Ext.refl (fun k => k = w2.heap.size) w6).setCell (p := ⟨w2.heap.size, 19, none⟩) (.inl rfl) (.int .i64 n6)) (by omega) (by omega))).mono ?_
  rintro e w7 ⟨rfl, r7, x7⟩
  have B7 : Hid (Blk w7 w2.heap.size #[.int .i64 n3, .int .i64 n4, .int .i64 n5, .int .i64 0, .int .i64 0, .int .i64 0, .int .i64 0, .int .i64 0, .int .i64 0, .int .i64 0, .int .i64 0, .int .i64 0, .int .i64 0, .int .i64 0, .int .i64 0, .int .i64 0, .int .i64 0, .int .i64 0, .bool false, .int .i64 n6, .int .i64 0] 70) := Lib.hid ((show Blk _ w2.heap.size #[.int .i64 n3, .int .i64 n4, .int .i64 n5, .int .i64 0, .int .i64 0, .int .i64 0, .int .i64 0, .int .i64 0, .int .i64 0, .int .i64 0, .int .i64 0, .int .i64 0, .int .i64 0, .int .i64 0, .int .i64 0, .int .i64 0, .int .i64 0, .int .i64 0, .bool false, .int .i64 n6, .int .i64 0] 70 from (show Blk _ w2.heap.size #[.int .i64 n3, .int .i64 n4, .int .i64 n5, .int .i64 0, .int .i64 0, .int .i64 0, .int .i64 0, .int .i64 0, .int .i64 0, .int .i64 0, .int .i64 0, .int .i64 0, .int .i64 0, .int .i64 0, .int .i64 0, .int .i64 0, .int .i64 0, .int .i64 0, .bool false, .int .i64 n6, .int .i64 0] 70 from (B6.out.set 19 (.int .i64 n6)))).ext x7 (by omega))
  have A7 : Hid (Blk w7 w.heap.size #[.int .i64 0, .int .i64 0, .int .i64 0, .int .i64 0, .int .i64 0, .int .i64 0, .int .i64 0, .int .i64 0, .int .i64 0, .int .i64 0, .int .i64 0, .int .i64 0, .int .i64 0, .int .i64 0, .int .i64 0, .int .i64 0, .int .i64 0, .int .i64 0, .bool false, .int .i64 0, .int .i64 0] 70) := Lib.hid ((A6.out.far (p := ⟨w2.heap.size, 19, none⟩) (by show w.heap.size ≠ w2.heap.size; omega) (.int .i64 n6)).ext x7 (by omega))
  have X7 : Hid (Ext None_ w w7) := Lib.hid ((X6.out.setCell (p := ⟨w2.heap.size, 19, none⟩) (.inr (by show w.heap.size ≤ w2.heap.size; omega)) (.int .i64 n6)).trans x7 (fun i hi e => by exfalso; omega))
  have R7 := Lib.hid r7
  clear x7 r7 bc bf A6 B6 R6 X6
  by_cases he : (EndR l s6).fe = 0
  · have he1 : ((EndR l s6).fe != 0) = false := neT he
    have HE := Lib.hid he
    clear he
    have AA := Lib.hid A7.out
    have BB := Lib.hid B7.out
    have XX := Lib.hid X7.out
    go_wp2_with (first | (refine wpList_load_row rfl 70 (.tmp 5) rfl w2.heap.size rfl 70 _ (0, 0) _ BB.out Try.underlying70 rfl rqSize ?_) | (refine wpList_store_blk rfl 70 (.tmp 2) (.tmp 79) rfl w.heap.size #[.int .i64 n3, .int .i64 n4, .int .i64 n5, .int .i64 0, .int .i64 0, .int .i64 0, .int .i64 0, .int .i64 0, .int .i64 0, .int .i64 0, .int .i64 0, .int .i64 0, .int .i64 0, .int .i64 0, .int .i64 0, .int .i64 0, .int .i64 0, .int .i64 0, .bool false, .int .i64 n6, .int .i64 0] rfl rfl 70 #[.int .i64 0, .int .i64 0, .int .i64 0, .int .i64 0, .int .i64 0, .int .i64 0, .int .i64 0, .int .i64 0, .int .i64 0, .int .i64 0, .int .i64 0, .int .i64 0, .int .i64 0, .int .i64 0, .int .i64 0, .int .i64 0, .int .i64 0, .int .i64 0, .bool false, .int .i64 0, .int .i64 0] AA.out rqSize rfl rfl ?_; intro wz bz xz; have BZ := Lib.hid bz; have XZ := Lib.hid xz; clear bz xz))
    exact bodyPost_ret (v := .tuple #[.agg #[.int .i64 n3, .int .i64 n4, .int .i64 n5, .int .i64 0, .int .i64 0, .int .i64 0, .int .i64 0, .int .i64 0, .int .i64 0, .int .i64 0, .int .i64 0, .int .i64 0, .int .i64 0, .int .i64 0, .int .i64 0, .int .i64 0, .int .i64 0, .int .i64 0, .bool false, .int .i64 n6, .int .i64 0], .int .i64 0]) (results2_blk rfl _ _ w.heap.size 70 _ _ rfl rfl BZ.out Try.underlying70 rfl rqSize) rfl ⟨ret_dec (q := (⟨n3, n4, ⟨n5, ord0, drv0, n6, 0⟩⟩ : Rq)) (e := 0) (by rw [HDR.out]; exact decE_ok HE.out), XX.out.trans XZ.out (fun i hi e => by exfalso; omega)⟩
  · have he1 : ((EndR l s6).fe != 0) = true := neF he
    have HE := Lib.hid he
    obtain ⟨ef, hef⟩ : ∃ ef, ef = (EndR l s6).fe := ⟨_, rfl⟩
    rw [← hef] at he1 ⊢
    have HEF := Lib.hid hef
    clear he hef
    have AA := Lib.hid A7.out
    have BB := Lib.hid B7.out
    have XX := Lib.hid X7.out
    go_wp2_with ((refine wpList_store_blk rfl 70 (.tmp 2) (.tmp 77) rfl w.heap.size #[.int .i64 0, .int .i64 0, .int .i64 0, .int .i64 0, .int .i64 0, .int .i64 0, .int .i64 0, .int .i64 0, .int .i64 0, .int .i64 0, .int .i64 0, .int .i64 0, .int .i64 0, .int .i64 0, .int .i64 0, .int .i64 0, .int .i64 0, .int .i64 0, .bool false, .int .i64 0, .int .i64 0] rfl rfl 70 #[.int .i64 0, .int .i64 0, .int .i64 0, .int .i64 0, .int .i64 0, .int .i64 0, .int .i64 0, .int .i64 0, .int .i64 0, .int .i64 0, .int .i64 0, .int .i64 0, .int .i64 0, .int .i64 0, .int .i64 0, .int .i64 0, .int .i64 0, .int .i64 0, .bool false, .int .i64 0, .int .i64 0] AA.out rqSize rfl rfl ?_; intro wz bz xz; have BZ := Lib.hid bz; have XZ := Lib.hid xz; clear bz xz))
    exact bodyPost_ret (v := .tuple #[.agg #[.int .i64 0, .int .i64 0, .int .i64 0, .int .i64 0, .int .i64 0, .int .i64 0, .int .i64 0, .int .i64 0, .int .i64 0, .int .i64 0, .int .i64 0, .int .i64 0, .int .i64 0, .int .i64 0, .int .i64 0, .int .i64 0, .int .i64 0, .int .i64 0, .bool false, .int .i64 0, .int .i64 0], .int .i64 ef]) (results2_blk rfl _ _ w.heap.size 70 _ _ rfl rfl BZ.out Try.underlying70 rfl rqSize) rfl ⟨ret_dec (q := rq0) (e := ef) (by rw [HDR.out, HEF.out]; exact decE_bad HE.out), XX.out.trans XZ.out (fun i hi e => by exfalso; omega)⟩

set_option maxRecDepth 100000 in
set_option maxHeartbeats 16000000 in
theorem rdecode4_any (s : ByteArray) (w : World) (hs : s.size ≤ 140737488355328) (hc : (d3 (bytesOf s)).2.fe = 0 ∧ (d3 (bytesOf s)).1 = 4) :
    Calls Try.prog 53 #[.string s] w fun e w' => e = .returned (.tuple #[.agg (decR (bytesOf s)).1.cells, .int .i64 (decR (bytesOf s)).2]) ∧ Ext None_ w w' := by
  obtain ⟨A, c, W1, hconv, hx1, hrow, hsz⟩ := conv_bytes (w.alloc (.cells #[.int .i64 0, .int .i64 0, .int .i64 0, .int .i64 0, .int .i64 0, .int .i64 0, .int .i64 0, .int .i64 0, .int .i64 0, .int .i64 0, .int .i64 0, .int .i64 0, .int .i64 0, .int .i64 0, .int .i64 0, .int .i64 0, .int .i64 0, .int .i64 0, .bool false, .int .i64 0, .int .i64 0] 70)) s
  rw [show (w.alloc (.cells #[.int .i64 0, .int .i64 0, .int .i64 0, .int .i64 0, .int .i64 0, .int .i64 0, .int .i64 0, .int .i64 0, .int .i64 0, .int .i64 0, .int .i64 0, .int .i64 0, .int .i64 0, .int .i64 0, .int .i64 0, .int .i64 0, .int .i64 0, .int .i64 0, .bool false, .int .i64 0, .int .i64 0] 70)).heap.size = w.heap.size + 1 from by simp] at hsz
  have hln := bytesOf_length s
  have hby := Byt_of s
  obtain ⟨l, hl⟩ : ∃ l, l = bytesOf s := ⟨_, rfl⟩
  rw [← hl] at hconv hrow hln hby hc ⊢
  have HC := Lib.hid hc
  have HX1 := Lib.hid hx1
  have HROW := Lib.hid hrow
  have HLN := Lib.hid hln
  have HBY := Lib.hid hby
  have HSZ := Lib.hid hsz
  have hz1 : w.heap.size < W1.heap.size := by omega
  clear hx1 hrow hl hsz hc hln hby
  go_enter Try.func53, Try.ntmps53
  go_wp2_with fail
  refine (rRead_any A c l _ HROW.out HBY.out (by rw [HLN.out]; exact hs)).mono ?_
  rintro e w2 ⟨g, b, rfl, r0, hg, hb, x0_⟩
  have R0 := Lib.hid r0
  have hlt := r0.lt.1
  have hlt2 := r0.lt.2.1
  have hz2 : W1.heap.size ≤ w2.heap.size := x0_.size
  have A0 : Hid (Blk w2 w.heap.size #[.int .i64 0, .int .i64 0, .int .i64 0, .int .i64 0, .int .i64 0, .int .i64 0, .int .i64 0, .int .i64 0, .int .i64 0, .int .i64 0, .int .i64 0, .int .i64 0, .int .i64 0, .int .i64 0, .int .i64 0, .int .i64 0, .int .i64 0, .int .i64 0, .bool false, .int .i64 0, .int .i64 0] 70) := Lib.hid (((Blk.new w #[.int .i64 0, .int .i64 0, .int .i64 0, .int .i64 0, .int .i64 0, .int .i64 0, .int .i64 0, .int .i64 0, .int .i64 0, .int .i64 0, .int .i64 0, .int .i64 0, .int .i64 0, .int .i64 0, .int .i64 0, .int .i64 0, .int .i64 0, .int .i64 0, .bool false, .int .i64 0, .int .i64 0] 70).ext0 HX1.out).ext0 x0_)
  have X0 : Hid (Ext None_ w w2) := Lib.hid ((((x0 _ _).trans0 HX1.out)).trans0 x0_)
  clear x0_ r0 hconv HROW HX1
  have R0' := Lib.hid (R0.out.ext0 (x0 w2 (.cells #[.int .i64 0, .int .i64 0, .int .i64 0, .int .i64 0, .int .i64 0, .int .i64 0, .int .i64 0, .int .i64 0, .int .i64 0, .int .i64 0, .int .i64 0, .int .i64 0, .int .i64 0, .int .i64 0, .int .i64 0, .int .i64 0, .int .i64 0, .int .i64 0, .bool false, .int .i64 0, .int .i64 0] 70)))
  have A0' := Lib.hid (A0.out.alloc (.cells #[.int .i64 0, .int .i64 0, .int .i64 0, .int .i64 0, .int .i64 0, .int .i64 0, .int .i64 0, .int .i64 0, .int .i64 0, .int .i64 0, .int .i64 0, .int .i64 0, .int .i64 0, .int .i64 0, .int .i64 0, .int .i64 0, .int .i64 0, .int .i64 0, .bool false, .int .i64 0, .int .i64 0] 70))
  have X0' := Lib.hid (X0.out.alloc (.cells #[.int .i64 0, .int .i64 0, .int .i64 0, .int .i64 0, .int .i64 0, .int .i64 0, .int .i64 0, .int .i64 0, .int .i64 0, .int .i64 0, .int .i64 0, .int .i64 0, .int .i64 0, .int .i64 0, .int .i64 0, .int .i64 0, .int .i64 0, .int .i64 0, .bool false, .int .i64 0, .int .i64 0] 70))
  have B0 := Lib.hid (Blk.new w2 #[.int .i64 0, .int .i64 0, .int .i64 0, .int .i64 0, .int .i64 0, .int .i64 0, .int .i64 0, .int .i64 0, .int .i64 0, .int .i64 0, .int .i64 0, .int .i64 0, .int .i64 0, .int .i64 0, .int .i64 0, .int .i64 0, .int .i64 0, .int .i64 0, .bool false, .int .i64 0, .int .i64 0] 70)
  clear R0 A0 X0
  go_wp2_with fail
  refine (rNum_ex g b l ⟨0, 0, 0⟩ _ R0'.out).mono ?_
  rintro e w3 ⟨n3, s3, e3, rfl, r3, x3⟩
  have B3 : Hid (Blk w3 w2.heap.size #[.int .i64 0, .int .i64 0, .int .i64 0, .int .i64 0, .int .i64 0, .int .i64 0, .int .i64 0, .int .i64 0, .int .i64 0, .int .i64 0, .int .i64 0, .int .i64 0, .int .i64 0, .int .i64 0, .int .i64 0, .int .i64 0, .int .i64 0, .int .i64 0, .bool false, .int .i64 0, .int .i64 0] 70) := Lib.hid ((show Blk _ w2.heap.size #[.int .i64 0, .int .i64 0, .int .i64 0, .int .i64 0, .int .i64 0, .int .i64 0, .int .i64 0, .int .i64 0, .int .i64 0, .int .i64 0, .int .i64 0, .int .i64 0, .int .i64 0, .int .i64 0, .int .i64 0, .int .i64 0, .int .i64 0, .int .i64 0, .bool false, .int .i64 0, .int .i64 0] 70 from B0.out).ext x3 (by omega))
  have A3 : Hid (Blk w3 w.heap.size #[.int .i64 0, .int .i64 0, .int .i64 0, .int .i64 0, .int .i64 0, .int .i64 0, .int .i64 0, .int .i64 0, .int .i64 0, .int .i64 0, .int .i64 0, .int .i64 0, .int .i64 0, .int .i64 0, .int .i64 0, .int .i64 0, .int .i64 0, .int .i64 0, .bool false, .int .i64 0, .int .i64 0] 70) := Lib.hid (A0'.out.ext x3 (by omega))
  have X3 : Hid (Ext None_ w w3) := Lib.hid (X0'.out.trans x3 (fun i hi e => by exfalso; omega))
  have R3 := Lib.hid r3
  clear x3 r3 A0' B0 R0' X0'
  have E3 := Lib.hid e3
  clear e3
  have bc := B3.out.cell
  have bf := B3.out.frozen
  go_wp2_with fail
  refine (rNum_ex g b l s3 _ (R3.out.ext ((Ext.refl (fun k => k = w2.heap.size) w3).setCell (p := ⟨w2.heap.size, 0, none⟩) (.inl rfl) (.int .i64 n3)) (by omega) (by omega))).mono ?_
  rintro e w4 ⟨n4, s4, e4, rfl, r4, x4⟩
  have B4 : Hid (Blk w4 w2.heap.size #[.int .i64 n3, .int .i64 0, .int .i64 0, .int .i64 0, .int .i64 0, .int .i64 0, .int .i64 0, .int .i64 0, .int .i64 0, .int .i64 0, .int .i64 0, .int .i64 0, .int .i64 0, .int .i64 0, .int .i64 0, .int .i64 0, .int .i64 0, .int .i64 0, .bool false, .int .i64 0, .int .i64 0] 70) := Lib.hid ((show Blk _ w2.heap.size #[.int .i64 n3, .int .i64 0, .int .i64 0, .int .i64 0, .int .i64 0, .int .i64 0, .int .i64 0, .int .i64 0, .int .i64 0, .int .i64 0, .int .i64 0, .int .i64 0, .int .i64 0, .int .i64 0, .int .i64 0, .int .i64 0, .int .i64 0, .int .i64 0, .bool false, .int .i64 0, .int .i64 0] 70 from (show Blk _ w2.heap.size #[.int .i64 n3, .int .i64 0, .int .i64 0, .int .i64 0, .int .i64 0, .int .i64 0, .int .i64 0, .int .i64 0, .int .i64 0, .int .i64 0, .int .i64 0, .int .i64 0, .int .i64 0, .int .i64 0, .int .i64 0, .int .i64 0, .int .i64 0, .int .i64 0, .bool false, .int .i64 0, .int .i64 0] 70 from (B3.out.set 0 (.int .i64 n3)))).ext x4 (by omega))
  have A4 : Hid (Blk w4 w.heap.size #[.int .i64 0, .int .i64 0, .int .i64 0, .int .i64 0, .int .i64 0, .int .i64 0, .int .i64 0, .int .i64 0, .int .i64 0, .int .i64 0, .int .i64 0, .int .i64 0, .int .i64 0, .int .i64 0, .int .i64 0, .int .i64 0, .int .i64 0, .int .i64 0, .bool false, .int .i64 0, .int .i64 0] 70) := Lib.hid ((A3.out.far (p := ⟨w2.heap.size, 0, none⟩) (by show w.heap.size ≠ w2.heap.size; omega) (.int .i64 n3)).ext x4 (by omega))
  have X4 : Hid (Ext None_ w w4) := Lib.hid ((X3.out.setCell (p := ⟨w2.heap.size, 0, none⟩) (.inr (by show w.heap.size ≤ w2.heap.size; omega)) (.int .i64 n3)).trans x4 (fun i hi e => by exfalso; omega))
  have R4 := Lib.hid r4
  clear x4 r4 A3 B3 R3 X3
  have E4 := Lib.hid e4
  clear e4
  clear bc bf
  have bc := B4.out.cell
  have bf := B4.out.frozen
  go_wp2_with fail
  refine (rNum_ex g b l s4 _ (R4.out.ext ((Ext.refl (fun k => k = w2.heap.size) w4).setCell (p := ⟨w2.heap.size, 1, none⟩) (.inl rfl) (.int .i64 n4)) (by omega) (by omega))).mono ?_
  rintro e w5 ⟨n5, s5, e5, rfl, r5, x5⟩
  have B5 : Hid (Blk w5 w2.heap.size #[.int .i64 n3, .int .i64 n4, .int .i64 0, .int .i64 0, .int .i64 0, .int .i64 0, .int .i64 0, .int .i64 0, .int .i64 0, .int .i64 0, .int .i64 0, .int .i64 0, .int .i64 0, .int .i64 0, .int .i64 0, .int .i64 0, .int .i64 0, .int .i64 0, .bool false, .int .i64 0, .int .i64 0] 70) := Lib.hid ((show Blk _ w2.heap.size #[.int .i64 n3, .int .i64 n4, .int .i64 0, .int .i64 0, .int .i64 0, .int .i64 0, .int .i64 0, .int .i64 0, .int .i64 0, .int .i64 0, .int .i64 0, .int .i64 0, .int .i64 0, .int .i64 0, .int .i64 0, .int .i64 0, .int .i64 0, .int .i64 0, .bool false, .int .i64 0, .int .i64 0] 70 from (show Blk _ w2.heap.size #[.int .i64 n3, .int .i64 n4, .int .i64 0, .int .i64 0, .int .i64 0, .int .i64 0, .int .i64 0, .int .i64 0, .int .i64 0, .int .i64 0, .int .i64 0, .int .i64 0, .int .i64 0, .int .i64 0, .int .i64 0, .int .i64 0, .int .i64 0, .int .i64 0, .bool false, .int .i64 0, .int .i64 0] 70 from (B4.out.set 1 (.int .i64 n4)))).ext x5 (by omega))
  have A5 : Hid (Blk w5 w.heap.size #[.int .i64 0, .int .i64 0, .int .i64 0, .int .i64 0, .int .i64 0, .int .i64 0, .int .i64 0, .int .i64 0, .int .i64 0, .int .i64 0, .int .i64 0, .int .i64 0, .int .i64 0, .int .i64 0, .int .i64 0, .int .i64 0, .int .i64 0, .int .i64 0, .bool false, .int .i64 0, .int .i64 0] 70) := Lib.hid ((A4.out.far (p := ⟨w2.heap.size, 1, none⟩) (by show w.heap.size ≠ w2.heap.size; omega) (.int .i64 n4)).ext x5 (by omega))
  have X5 : Hid (Ext None_ w w5) := Lib.hid ((X4.out.setCell (p := ⟨w2.heap.size, 1, none⟩) (.inr (by show w.heap.size ≤ w2.heap.size; omega)) (.int .i64 n4)).trans x5 (fun i hi e => by exfalso; omega))
  have R5 := Lib.hid r5
  clear x5 r5 A4 B4 R4 X4
  have E5 := Lib.hid e5
  clear e5
  clear bc bf
  have bc := B5.out.cell
  have bf := B5.out.frozen
  have D3 : d3 l = (n5, s5) := by unfold d3 d2 d1; rw [E3.out, E4.out, E5.out]
  have D2 : d2 l = (n4, s4) := by unfold d2 d1; rw [E3.out, E4.out]
  have D1 : d1 l = (n3, s3) := E3.out
  have hc := HC.out
  rw [D3] at hc
  have hfe : (s5.fe == 0) = true := eqT hc.1
  have hfe' : (s5.fe != 0) = false := neT hc.1
  have hk : n5 = 4 := hc.2
  have hn : nmd n5 = ⟨false, false, true, false, true⟩ := by rw [hk]; simp [nmd]
  have HFE := Lib.hid hfe
  have k1 : (n5 == 1) = false := by rw [hk]; rfl
  have k3 : (n5 == 3) = false := by rw [hk]; rfl
  have k5 : (n5 == 5) = false := by rw [hk]; rfl
  have k6 : (n5 == 6) = false := by rw [hk]; rfl
  have kl : decide (n5 < 1) = false := by rw [hk]; rfl
  have kg : decide (7 < n5) = false := by rw [hk]; rfl
  have HK : Hid (n5 = 4 ∧ nmd n5 = ⟨false, false, true, false, true⟩ ∧ s5.fe = 0 ∧ d3 l = (n5, s5) ∧ d2 l = (n4, s4) ∧ d1 l = (n3, s3)) := Lib.hid ⟨hk, hn, hc.1, D3, D2, D1⟩
  clear hc hn hfe' D3 D2 D1 hk
  obtain ⟨_, _, ⟨g0_, g1_, g2_, g3_⟩, _⟩ := R5.out.cells
  have hne_ : ¬ g = w2.heap.size := (by omega)
  have hne2_ : ¬ w2.heap.size = g := (by omega)
  go_wp2_with fail
  refine (rNum_ex g b l s5 _ (R5.out.ext ((Ext.refl (fun k => k = w2.heap.size) w5).setCell (p := ⟨w2.heap.size, 2, none⟩) (.inl rfl) (.int .i64 n5)) (by omega) (by omega))).mono ?_
  rintro e w6 ⟨n6, s6, e6, rfl, r6, x6⟩
  have B6 : Hid (Blk w6 w2.heap.size #[.int .i64 n3, .int .i64 n4, .int .i64 n5, .int .i64 0, .int .i64 0, .int .i64 0, .int .i64 0, .int .i64 0, .int .i64 0, .int .i64 0, .int .i64 0, .int .i64 0, .int .i64 0, .int .i64 0, .int .i64 0, .int .i64 0, .int .i64 0, .int .i64 0, .bool false, .int .i64 0, .int .i64 0] 70) := Lib.hid ((show Blk _ w2.heap.size #[.int .i64 n3, .int .i64 n4, .int .i64 n5, .int .i64 0, .int .i64 0, .int .i64 0, .int .i64 0, .int .i64 0, .int .i64 0, .int .i64 0, .int .i64 0, .int .i64 0, .int .i64 0, .int .i64 0, .int .i64 0, .int .i64 0, .int .i64 0, .int .i64 0, .bool false, .int .i64 0, .int .i64 0] 70 from (show Blk _ w2.heap.size #[.int .i64 n3, .int .i64 n4, .int .i64 n5, .int .i64 0, .int .i64 0, .int .i64 0, .int .i64 0, .int .i64 0, .int .i64 0, .int .i64 0, .int .i64 0, .int .i64 0, .int .i64 0, .int .i64 0, .int .i64 0, .int .i64 0, .int .i64 0, .int .i64 0, .bool false, .int .i64 0, .int .i64 0] 70 from (B5.out.set 2 (.int .i64 n5)))).ext x6 (by omega))
  have A6 : Hid (Blk w6 w.heap.size #[.int .i64 0, .int .i64 0, .int .i64 0, .int .i64 0, .int .i64 0, .int .i64 0, .int .i64 0, .int .i64 0, .int .i64 0, .int .i64 0, .int .i64 0, .int .i64 0, .int .i64 0, .int .i64 0, .int .i64 0, .int .i64 0, .int .i64 0, .int .i64 0, .bool false, .int .i64 0, .int .i64 0] 70) := Lib.hid ((A5.out.far (p := ⟨w2.heap.size, 2, none⟩) (by show w.heap.size ≠ w2.heap.size; omega) (.int .i64 n5)).ext x6 (by omega))
  have X6 : Hid (Ext None_ w w6) := Lib.hid ((X5.out.setCell (p := ⟨w2.heap.size, 2, none⟩) (.inr (by show w.heap.size ≤ w2.heap.size; omega)) (.int .i64 n5)).trans x6 (fun i hi e => by exfalso; omega))
  have R6 := Lib.hid r6
  clear x6 r6 A5 B5 R5 X5
  have E6 := Lib.hid e6
  clear e6
  clear bc bf
  have bc := B6.out.cell
  have bf := B6.out.frozen
  clear g0_ g1_ g2_ g3_
  have HDR : Hid (decR l = decE l (⟨n3, n4, ⟨n5, ord0, drv0, n6, 0⟩⟩ : Rq) s6) := Lib.hid (by obtain ⟨hk, hn, h0, D3, D2, D1⟩ := HK.out; have po4 : o4 l n5 s5 = (ord0, s5) := (by unfold o4; rw [hn]; first | done | rfl); have po5 : o5 l n5 s5 = (drv0, s5) := (by unfold o5; rw [hn]; first | done | rfl); have po6 : o6 l n5 s5 = (n6, s6) := (by unfold o6; rw [hn]; first | done | exact E6.out); have po7 : o7 l n5 s6 = (0, s6) := (by unfold o7; rw [hn]; first | done | rfl); unfold decR; rw [D3, D2, D1, if_neg (by rw [hn]; exact fun a => by cases a.2)]; simp only [decS, po4, po5, po6, po7])
  go_wp2_with fail
  refine (rEnd_any g b l s6 _ (R6.out.ext ((Ext.refl (fun k => k = w2.heap.size) w6).setCell (p := ⟨w2.heap.size, 19, none⟩) (.inl rfl) (.int .i64 n6)) (by omega) (by omega))).mono ?_
  rintro e w7 ⟨rfl, r7, x7⟩
  have B7 : Hid (Blk w7 w2.heap.size #[.int .i64 n3, .int .i64 n4, .int .i64 n5, .int .i64 0, .int .i64 0, .int .i64 0, .int .i64 0, .int .i64 0, .int .i64 0, .int .i64 0, .int .i64 0, .int .i64 0, .int .i64 0, .int .i64 0, .int .i64 0, .int .i64 0, .int .i64 0, .int .i64 0, .bool false, .int .i64 n6, .int .i64 0] 70) := Lib.hid ((show Blk _ w2.heap.size #[.int .i64 n3, .int .i64 n4, .int .i64 n5, .int .i64 0, .int .i64 0, .int .i64 0, .int .i64 0, .int .i64 0, .int .i64 0, .int .i64 0, .int .i64 0, .int .i64 0, .int .i64 0, .int .i64 0, .int .i64 0, .int .i64 0, .int .i64 0, .int .i64 0, .bool false, .int .i64 n6, .int .i64 0] 70 from (show Blk _ w2.heap.size #[.int .i64 n3, .int .i64 n4, .int .i64 n5, .int .i64 0, .int .i64 0, .int .i64 0, .int .i64 0, .int .i64 0, .int .i64 0, .int .i64 0, .int .i64 0, .int .i64 0, .int .i64 0, .int .i64 0, .int .i64 0, .int .i64 0, .int .i64 0, .int .i64 0, .bool false, .int .i64 n6, .int .i64 0] 70 from (B6.out.set 19 (.int .i64 n6)))).ext x7 (by omega))
  have A7 : Hid (Blk w7 w.heap.size #[.int .i64 0, .int .i64 0, .int .i64 0, .int .i64 0, .int .i64 0, .int .i64 0, .int .i64 0, .int .i64 0, .int .i64 0, .int .i64 0, .int .i64 0, .int .i64 0, .int .i64 0, .int .i64 0, .int .i64 0, .int .i64 0, .int .i64 0, .int .i64 0, .bool false, .int .i64 0, .int .i64 0] 70) := Lib.hid ((A6.out.far (p := ⟨w2.heap.size, 19, none⟩) (by show w.heap.size ≠ w2.heap.size; omega) (.int .i64 n6)).ext x7 (by omega))
  have X7 : Hid (Ext None_ w w7) := Lib.hid ((X6.out.setCell (p := ⟨w2.heap.size, 19, none⟩) (.inr (by show w.heap.size ≤ w2.heap.size; omega)) (.int .i64 n6)).trans x7 (fun i hi e => by exfalso; omega))
  have R7 := Lib.hid r7
  clear x7 r7 bc bf A6 B6 R6 X6
  by_cases he : (EndR l s6).fe = 0
  · have he1 : ((EndR l s6).fe != 0) = false := neT he
    have HE := Lib.hid he
    clear he
    have AA := Lib.hid A7.out
    have BB := Lib.hid B7.out
    have XX := Lib.hid X7.out
    go_wp2_with (first | (refine wpList_load_row rfl 70 (.tmp 5) rfl w2.heap.size rfl 70 _ (0, 0) _ BB.out Try.underlying70 rfl rqSize ?_) | (refine wpList_store_blk rfl 70 (.tmp 2) (.tmp 79) rfl w.heap.size #[.int .i64 n3, .int .i64 n4, .int .i64 n5, .int .i64 0, .int .i64 0, .int .i64 0, .int .i64 0, .int .i64 0, .int .i64 0, .int .i64 0, .int .i64 0, .int .i64 0, .int .i64 0, .int .i64 0, .int .i64 0, .int .i64 0, .int .i64 0, .int .i64 0, .bool false, .int .i64 n6, .int .i64 0] rfl rfl 70 #[.int .i64 0, .int .i64 0, .int .i64 0, .int .i64 0, .int .i64 0, .int .i64 0, .int .i64 0, .int .i64 0, .int .i64 0, .int .i64 0, .int .i64 0, .int .i64 0, .int .i64 0, .int .i64 0, .int .i64 0, .int .i64 0, .int .i64 0, .int .i64 0, .bool false, .int .i64 0, .int .i64 0] AA.out rqSize rfl rfl ?_; intro wz bz xz; have BZ := Lib.hid bz; have XZ := Lib.hid xz; clear bz xz))
    exact bodyPost_ret (v := .tuple #[.agg #[.int .i64 n3, .int .i64 n4, .int .i64 n5, .int .i64 0, .int .i64 0, .int .i64 0, .int .i64 0, .int .i64 0, .int .i64 0, .int .i64 0, .int .i64 0, .int .i64 0, .int .i64 0, .int .i64 0, .int .i64 0, .int .i64 0, .int .i64 0, .int .i64 0, .bool false, .int .i64 n6, .int .i64 0], .int .i64 0]) (results2_blk rfl _ _ w.heap.size 70 _ _ rfl rfl BZ.out Try.underlying70 rfl rqSize) rfl ⟨ret_dec (q := (⟨n3, n4, ⟨n5, ord0, drv0, n6, 0⟩⟩ : Rq)) (e := 0) (by rw [HDR.out]; exact decE_ok HE.out), XX.out.trans XZ.out (fun i hi e => by exfalso; omega)⟩
  · have he1 : ((EndR l s6).fe != 0) = true := neF he
    have HE := Lib.hid he
    obtain ⟨ef, hef⟩ : ∃ ef, ef = (EndR l s6).fe := ⟨_, rfl⟩
    rw [← hef] at he1 ⊢
    have HEF := Lib.hid hef
    clear he hef
    have AA := Lib.hid A7.out
    have BB := Lib.hid B7.out
    have XX := Lib.hid X7.out
    go_wp2_with ((refine wpList_store_blk rfl 70 (.tmp 2) (.tmp 77) rfl w.heap.size #[.int .i64 0, .int .i64 0, .int .i64 0, .int .i64 0, .int .i64 0, .int .i64 0, .int .i64 0, .int .i64 0, .int .i64 0, .int .i64 0, .int .i64 0, .int .i64 0, .int .i64 0, .int .i64 0, .int .i64 0, .int .i64 0, .int .i64 0, .int .i64 0, .bool false, .int .i64 0, .int .i64 0] rfl rfl 70 #[.int .i64 0, .int .i64 0, .int .i64 0, .int .i64 0, .int .i64 0, .int .i64 0, .int .i64 0, .int .i64 0, .int .i64 0, .int .i64 0, .int .i64 0, .int .i64 0, .int .i64 0, .int .i64 0, .int .i64 0, .int .i64 0, .int .i64 0, .int .i64 0, .bool false, .int .i64 0, .int .i64 0] AA.out rqSize rfl rfl ?_; intro wz bz xz; have BZ := Lib.hid bz; have XZ := Lib.hid xz; clear bz xz))
    exact bodyPost_ret (v := .tuple #[.agg #[.int .i64 0, .int .i64 0, .int .i64 0, .int .i64 0, .int .i64 0, .int .i64 0, .int .i64 0, .int .i64 0, .int .i64 0, .int .i64 0, .int .i64 0, .int .i64 0, .int .i64 0, .int .i64 0, .int .i64 0, .int .i64 0, .int .i64 0, .int .i64 0, .bool false, .int .i64 0, .int .i64 0], .int .i64 ef]) (results2_blk rfl _ _ w.heap.size 70 _ _ rfl rfl BZ.out Try.underlying70 rfl rqSize) rfl ⟨ret_dec (q := rq0) (e := ef) (by rw [HDR.out, HEF.out]; exact decE_bad HE.out), XX.out.trans XZ.out (fun i hi e => by exfalso; omega)⟩

set_option maxRecDepth 100000 in
set_option maxHeartbeats 16000000 in
theorem rdecode7_any (s : ByteArray) (w : World) (hs : s.size ≤ 140737488355328) (hc : (d3 (bytesOf s)).2.fe = 0 ∧ (d3 (bytesOf s)).1 = 7) :
    Calls Try.prog 53 #[.string s] w fun e w' => e = .returned (.tuple #[.agg (decR (bytesOf s)).1.cells, .int .i64 (decR (bytesOf s)).2]) ∧ Ext None_ w w' := by
  obtain ⟨A, c, W1, hconv, hx1, hrow, hsz⟩ := conv_bytes (w.alloc (.cells #[.int .i64 0, .int .i64 0, .int .i64 0, .int .i64 0, .int .i64 0, .int .i64 0, .int .i64 0, .int .i64 0, .int .i64 0, .int .i64 0, .int .i64 0, .int .i64 0, .int .i64 0, .int .i64 0, .int .i64 0, .int .i64 0, .int .i64 0, .int .i64 0, .bool false, .int .i64 0, .int .i64 0] 70)) s
  rw [show (w.alloc (.cells #[.int .i64 0, .int .i64 0, .int .i64 0, .int .i64 0, .int .i64 0, .int .i64 0, .int .i64 0, .int .i64 0, .int .i64 0, .int .i64 0, .int .i64 0, .int .i64 0, .int .i64 0, .int .i64 0, .int .i64 0, .int .i64 0, .int .i64 0, .int .i64 0, .bool false, .int .i64 0, .int .i64 0] 70)).heap.size = w.heap.size + 1 from by simp] at hsz
  have hln := bytesOf_length s
  have hby := Byt_of s
  obtain ⟨l, hl⟩ : ∃ l, l = bytesOf s := ⟨_, rfl⟩
  rw [← hl] at hconv hrow hln hby hc ⊢
  have HC := Lib.hid hc
  have HX1 := Lib.hid hx1
  have HROW := Lib.hid hrow
  have HLN := Lib.hid hln
  have HBY := Lib.hid hby
  have HSZ := Lib.hid hsz
  have hz1 : w.heap.size < W1.heap.size := by omega
  clear hx1 hrow hl hsz hc hln hby
  go_enter Try.func53, Try.ntmps53
  go_wp2_with fail
  refine (rRead_any A c l _ HROW.out HBY.out (by rw [HLN.out]; exact hs)).mono ?_
  rintro e w2 ⟨g, b, rfl, r0, hg, hb, x0_⟩
  have R0 := Lib.hid r0
  have hlt := r0.lt.1
  have hlt2 := r0.lt.2.1
  have hz2 : W1.heap.size ≤ w2.heap.size := x0_.size
  have A0 : Hid (Blk w2 w.heap.size #[.int .i64 0, .int .i64 0, .int .i64 0, .int .i64 0, .int .i64 0, .int .i64 0, .int .i64 0, .int .i64 0, .int .i64 0, .int .i64 0, .int .i64 0, .int .i64 0, .int .i64 0, .int .i64 0, .int .i64 0, .int .i64 0, .int .i64 0, .int .i64 0, .bool false, .int .i64 0, .int .i64 0] 70) := Lib.hid (((Blk.new w #[.int .i64 0, .int .i64 0, .int .i64 0, .int .i64 0, .int .i64 0, .int .i64 0, .int .i64 0, .int .i64 0, .int .i64 0, .int .i64 0, .int .i64 0, .int .i64 0, .int .i64 0, .int .i64 0, .int .i64 0, .int .i64 0, .int .i64 0, .int .i64 0, .bool false, .int .i64 0, .int .i64 0] 70).ext0 HX1.out).ext0 x0_)
  have X0 : Hid (Ext None_ w w2) := Lib.hid ((((x0 _ _).trans0 HX1.out)).trans0 x0_)
  clear x0_ r0 hconv HROW HX1
  have R0' := Lib.hid (R0.out.ext0 (x0 w2 (.cells #[.int .i64 0, .int .i64 0, .int .i64 0, .int .i64 0, .int .i64 0, .int .i64 0, .int .i64 0, .int .i64 0, .int .i64 0, .int .i64 0, .int .i64 0, .int .i64 0, .int .i64 0, .int .i64 0, .int .i64 0, .int .i64 0, .int .i64 0, .int .i64 0, .bool false, .int .i64 0, .int .i64 0] 70)))
  have A0' := Lib.hid (A0.out.alloc (.cells #[.int .i64 0, .int .i64 0, .int .i64 0, .int .i64 0, .int .i64 0, .int .i64 0, .int .i64 0, .int .i64 0, .int .i64 0, .int .i64 0, .int .i64 0, .int .i64 0, .int .i64 0, .int .i64 0, .int .i64 0, .int .i64 0, .int .i64 0, .int .i64 0, .bool false, .int .i64 0, .int .i64 0] 70))
  have X0' := Lib.hid (X0.out.alloc (.cells #[.int .i64 0, .int .i64 0, .int .i64 0, .int .i64 0, .int .i64 0, .int .i64 0, .int .i64 0, .int .i64 0, .int .i64 0, .int .i64 0, .int .i64 0, .int .i64 0, .int .i64 0, .int .i64 0, .int .i64 0, .int .i64 0, .int .i64 0, .int .i64 0, .bool false, .int .i64 0, .int .i64 0] 70))
  have B0 := Lib.hid (Blk.new w2 #[.int .i64 0, .int .i64 0, .int .i64 0, .int .i64 0, .int .i64 0, .int .i64 0, .int .i64 0, .int .i64 0, .int .i64 0, .int .i64 0, .int .i64 0, .int .i64 0, .int .i64 0, .int .i64 0, .int .i64 0, .int .i64 0, .int .i64 0, .int .i64 0, .bool false, .int .i64 0, .int .i64 0] 70)
  clear R0 A0 X0
  go_wp2_with fail
  refine (rNum_ex g b l ⟨0, 0, 0⟩ _ R0'.out).mono ?_
  rintro e w3 ⟨n3, s3, e3, rfl, r3, x3⟩
  have B3 : Hid (Blk w3 w2.heap.size #[.int .i64 0, .int .i64 0, .int .i64 0, .int .i64 0, .int .i64 0, .int .i64 0, .int .i64 0, .int .i64 0, .int .i64 0, .int .i64 0, .int .i64 0, .int .i64 0, .int .i64 0, .int .i64 0, .int .i64 0, .int .i64 0, .int .i64 0, .int .i64 0, .bool false, .int .i64 0, .int .i64 0] 70) := Lib.hid ((show Blk _ w2.heap.size #[.int .i64 0, .int .i64 0, .int .i64 0, .int .i64 0, .int .i64 0, .int .i64 0, .int .i64 0, .int .i64 0, .int .i64 0, .int .i64 0, .int .i64 0, .int .i64 0, .int .i64 0, .int .i64 0, .int .i64 0, .int .i64 0, .int .i64 0, .int .i64 0, .bool false, .int .i64 0, .int .i64 0] 70 from B0.out).ext x3 (by omega))
  have A3 : Hid (Blk w3 w.heap.size #[.int .i64 0, .int .i64 0, .int .i64 0, .int .i64 0, .int .i64 0, .int .i64 0, .int .i64 0, .int .i64 0, .int .i64 0, .int .i64 0, .int .i64 0, .int .i64 0, .int .i64 0, .int .i64 0, .int .i64 0, .int .i64 0, .int .i64 0, .int .i64 0, .bool false, .int .i64 0, .int .i64 0] 70) := Lib.hid (A0'.out.ext x3 (by omega))
  have X3 : Hid (Ext None_ w w3) := Lib.hid (X0'.out.trans x3 (fun i hi e => by exfalso; omega))
  have R3 := Lib.hid r3
  clear x3 r3 A0' B0 R0' X0'
  have E3 := Lib.hid e3
  clear e3
  have bc := B3.out.cell
  have bf := B3.out.frozen
  go_wp2_with fail
  refine (rNum_ex g b l s3 _ (R3.out.ext ((Ext.refl (fun k => k = w2.heap.size) w3).setCell (p := ⟨w2.heap.size, 0, none⟩) (.inl rfl) (.int .i64 n3)) (by omega) (by omega))).mono ?_
  rintro e w4 ⟨n4, s4, e4, rfl, r4, x4⟩
  have B4 : Hid (Blk w4 w2.heap.size #[.int .i64 n3, .int .i64 0, .int .i64 0, .int .i64 0, .int .i64 0, .int .i64 0, .int .i64 0, .int .i64 0, .int .i64 0, .int .i64 0, .int .i64 0, .int .i64 0, .int .i64 0, .int .i64 0, .int .i64 0, .int .i64 0, .int .i64 0, .int .i64 0, .bool false, .int .i64 0, .int .i64 0] 70) := Lib.hid ((show Blk _ w2.heap.size #[.int .i64 n3, .int .i64 0, .int .i64 0, .int .i64 0, .int .i64 0, .int .i64 0, .int .i64 0, .int .i64 0, .int .i64 0, .int .i64 0, .int .i64 0, .int .i64 0, .int .i64 0, .int .i64 0, .int .i64 0, .int .i64 0, .int .i64 0, .int .i64 0, .bool false, .int .i64 0, .int .i64 0] 70 from (show Blk _ w2.heap.size #[.int .i64 n3, .int .i64 0, .int .i64 0, .int .i64 0, .int .i64 0, .int .i64 0, .int .i64 0, .int .i64 0, .int .i64 0, .int .i64 0, .int .i64 0, .int .i64 0, .int .i64 0, .int .i64 0, .int .i64 0, .int .i64 0, .int .i64 0, .int .i64 0, .bool false, .int .i64 0, .int .i64 0] 70 from (B3.out.set 0 (.int .i64 n3)))).ext x4 (by omega))
  have A4 : Hid (Blk w4 w.heap.size #[.int .i64 0, .int .i64 0, .int .i64 0, .int .i64 0, .int .i64 0, .int .i64 0, .int .i64 0, .int .i64 0, .int .i64 0, .int .i64 0, .int .i64 0, .int .i64 0, .int .i64 0, .int .i64 0, .int .i64 0, .int .i64 0, .int .i64 0, .int .i64 0, .bool false, .int .i64 0, .int .i64 0] 70) := Lib.hid ((A3.out.far (p := ⟨w2.heap.size, 0, none⟩) (by show w.heap.size ≠ w2.heap.size; omega) (.int .i64 n3)).ext x4 (by omega))
  have X4 : Hid (Ext None_ w w4) := Lib.hid ((X3.out.setCell (p := ⟨w2.heap.size, 0, none⟩) (.inr (by show w.heap.size ≤ w2.heap.size; omega)) (.int .i64 n3)).trans x4 (fun i hi e => by exfalso; omega))
  have R4 := Lib.hid r4
  clear x4 r4 A3 B3 R3 X3
  have E4 := Lib.hid e4
  clear e4
  clear bc bf
  have bc := B4.out.cell
  have bf := B4.out.frozen
  go_wp2_with fail
  refine (rNum_ex g b l s4 _ (R4.out.ext ((Ext.refl (fun k => k = w2.heap.size) w4).setCell (p := ⟨w2.heap.size, 1, none⟩) (.inl rfl) (.int .i64 n4)) (by omega) (by omega))).mono ?_
  rintro e w5 ⟨n5, s5, e5, rfl, r5, x5⟩
  have B5 : Hid (Blk w5 w2.heap.size #[.int .i64 n3, .int .i64 n4, .int .i64 0, .int .i64 0, .int .i64 0, .int .i64 0, .int .i64 0, .int .i64 0, .int .i64 0, .int .i64 0, .int .i64 0, .int .i64 0, .int .i64 0, .int .i64 0, .int .i64 0, .int .i64 0, .int .i64 0, .int .i64 0, .bool false, .int .i64 0, .int .i64 0] 70) := Lib.hid ((show Blk _ w2.heap.size #[.int .i64 n3, .int .i64 n4, .int .i64 0, .int .i64 0, .int .i64 0, .int .i64 0, .int .i64 0, .int .i64 0, .int .i64 0, .int .i64 0, .int .i64 0, .int .i64 0, .int .i64 0, .int .i64 0, .int .i64 0, .int .i64 0, .int .i64 0, .int .i64 0, .bool false, .int .i64 0, .int .i64 0] 70 from (show Blk _ w2.heap.size #[.int .i64 n3, .int .i64 n4, .int .i64 0, .int .i64 0, .int .i64 0, .int .i64 0, .int .i64 0, .int .i64 0, .int .i64 0, .int .i64 0, .int .i64 0, .int .i64 0, .int .i64 0, .int .i64 0, .int .i64 0, .int .i64 0, .int .i64 0, .int .i64 0, .bool false, .int .i64 0, .int .i64 0] 70 from (B4.out.set 1 (.int .i64 n4)))).ext x5 (by omega))
  have A5 : Hid (Blk w5 w.heap.size #[.int .i64 0, .int .i64 0, .int .i64 0, .int .i64 0, .int .i64 0, .int .i64 0, .int .i64 0, .int .i64 0, .int .i64 0, .int .i64 0, .int .i64 0, .int .i64 0, .int .i64 0, .int .i64 0, .int .i64 0, .int .i64 0, .int .i64 0, .int .i64 0, .bool false, .int .i64 0, .int .i64 0] 70) := Lib.hid ((A4.out.far (p := ⟨w2.heap.size, 1, none⟩) (by show w.heap.size ≠ w2.heap.size; omega) (.int .i64 n4)).ext x5 (by omega))
  have X5 : Hid (Ext None_ w w5) := Lib.hid ((X4.out.setCell (p := ⟨w2.heap.size, 1, none⟩) (.inr (by show w.heap.size ≤ w2.heap.size; omega)) (.int .i64 n4)).trans x5 (fun i hi e => by exfalso; omega))
  have R5 := Lib.hid r5
  clear x5 r5 A4 B4 R4 X4
  have E5 := Lib.hid e5
  clear e5
  clear bc bf
  have bc := B5.out.cell
  have bf := B5.out.frozen
  have D3 : d3 l = (n5, s5) := by unfold d3 d2 d1; rw [E3.out, E4.out, E5.out]
  have D2 : d2 l = (n4, s4) := by unfold d2 d1; rw [E3.out, E4.out]
  have D1 : d1 l = (n3, s3) := E3.out
  have hc := HC.out
  rw [D3] at hc
  have hfe : (s5.fe == 0) = true := eqT hc.1
  have hfe' : (s5.fe != 0) = false := neT hc.1
  have hk : n5 = 7 := hc.2
  have hn : nmd n5 = ⟨false, false, true, false, true⟩ := by rw [hk]; simp [nmd]
  have HFE := Lib.hid hfe
  have k1 : (n5 == 1) = false := by rw [hk]; rfl
  have k3 : (n5 == 3) = false := by rw [hk]; rfl
  have k5 : (n5 == 5) = false := by rw [hk]; rfl
  have k6 : (n5 == 6) = false := by rw [hk]; rfl
  have kl : decide (n5 < 1) = false := by rw [hk]; rfl
  have kg : decide (7 < n5) = false := by rw [hk]; rfl
  have HK : Hid (n5 = 7 ∧ nmd n5 = ⟨false, false, true, false, true⟩ ∧ s5.fe = 0 ∧ d3 l = (n5, s5) ∧ d2 l = (n4, s4) ∧ d1 l = (n3, s3)) := Lib.hid ⟨hk, hn, hc.1, D3, D2, D1⟩
  clear hc hn hfe' D3 D2 D1 hk
  obtain ⟨_, _, ⟨g0_, g1_, g2_, g3_⟩, _⟩ := R5.out.cells
  have hne_ : ¬ g = w2.heap.size := (by omega)
  have hne2_ : ¬ w2.heap.size = g := (by omega)
  go_wp2_with fail
  refine (rNum_ex g b l s5 _ (R5.out.ext ((Ext.refl (fun k => k = w2.heap.size) w5).setCell (p := ⟨w2.heap.size, 2, none⟩) (.inl rfl) (.int .i64 n5)) (by omega) (by omega))).mono ?_
  rintro e w6 ⟨n6, s6, e6, rfl, r6, x6⟩
  have B6 : Hid (Blk w6 w2.heap.size #[.int .i64 n3, .int .i64 n4, .int .i64 n5, .int .i64 0, .int .i64 0, .int .i64 0, .int .i64 0, .int .i64 0, .int .i64 0, .int .i64 0, .int .i64 0, .int .i64 0, .int .i64 0, .int .i64 0, .int .i64 0, .int .i64 0, .int .i64 0, .int .i64 0, .bool false, .int .i64 0, .int .i64 0] 70) := Lib.hid ((show Blk _ w2.heap.size #[.int .i64 n3, .int .i64 n4, .int .i64 n5, .int .i64 0, .int .i64 0, .int .i64 0, .int .i64 0, .int .i64 0, .int .i64 0, .int .i64 0, .int .i64 0, .int .i64 0, .int .i64 0, .int .i64 0, .int .i64 0, .int .i64 0, .int .i64 0, .int .i64 0, .bool false, .int .i64 0, .int .i64 0] 70 from (show Blk _ w2.heap.size #[.int .i64 n3, .int .i64 n4, .int .i64 n5, .int .i64 0, .int .i64 0, .int .i64 0, .int .i64 0, .int .i64 0, .int .i64 0, .int .i64 0, .int .i64 0, .int .i64 0, .int .i64 0, .int .i64 0, .int .i64 0, .int .i64 0, .int .i64 0, .int .i64 0, .bool false, .int .i64 0, .int .i64 0] 70 from (B5.out.set 2 (.int .i64 n5)))).ext x6 (by omega))
  have A6 : Hid (Blk w6 w.heap.size #[.int .i64 0, .int .i64 0, .int .i64 0, .int .i64 0, .int .i64 0, .int .i64 0, .int .i64 0, .int .i64 0, .int .i64 0, .int .i64 0, .int .i64 0, .int .i64 0, .int .i64 0, .int .i64 0, .int .i64 0, .int .i64 0, .int .i64 0, .int .i64 0, .bool false, .int .i64 0, .int .i64 0] 70) := Lib.hid ((A5.out.far (p := ⟨w2.heap.size, 2, none⟩) (by show w.heap.size ≠ w2.heap.size; omega) (.int .i64 n5)).ext x6 (by omega))
  have X6 : Hid (Ext None_ w w6) := Lib.hid ((X5.out.setCell (p := ⟨w2.heap.size, 2, none⟩) (.inr (by show w.heap.size ≤ w2.heap.size; omega)) (.int .i64 n5)).trans x6 (fun i hi e => by exfalso; omega))
  have R6 := Lib.hid r6
  clear x6 r6 A5 B5 R5 X5
  have E6 := Lib.hid e6
  clear e6
  clear bc bf
  have bc := B6.out.cell
  have bf := B6.out.frozen
  clear g0_ g1_ g2_ g3_
  have HDR : Hid (decR l = decE l (⟨n3, n4, ⟨n5, ord0, drv0, n6, 0⟩⟩ : Rq) s6) := Lib.hid (by obtain ⟨hk, hn, h0, D3, D2, D1⟩ := HK.out; have po4 : o4 l n5 s5 = (ord0, s5) := (by unfold o4; rw [hn]; first | done | rfl); have po5 : o5 l n5 s5 = (drv0, s5) := (by unfold o5; rw [hn]; first | done | rfl); have po6 : o6 l n5 s5 = (n6, s6) := (by unfold o6; rw [hn]; first | done | exact E6.out); have po7 : o7 l n5 s6 = (0, s6) := (by unfold o7; rw [hn]; first | done | rfl); unfold decR; rw [D3, D2, D1, if_neg (by rw [hn]; exact fun a => by cases a.2)]; simp only [decS, po4, po5, po6, po7])
  go_wp2_with fail
  refine (rEnd_any g b l s6 _ (R6.out.ext ((Ext.refl (fun k => k = w2.heap.size) w6).setCell (p := ⟨w2.heap.size, 19, none⟩) (.inl rfl) (.int .i64 n6)) (by omega) (by omega))).mono ?_
  rintro e w7 ⟨rfl, r7, x7⟩
  have B7 : Hid (Blk w7 w2.heap.size #[.int .i64 n3, .int .i64 n4, .int .i64 n5, .int .i64 0, .int .i64 0, .int .i64 0, .int .i64 0, .int .i64 0, .int .i64 0, .int .i64 0, .int .i64 0, .int .i64 0, .int .i64 0, .int .i64 0, .int .i64 0, .int .i64 0, .int .i64 0, .int .i64 0, .bool false, .int .i64 n6, .int .i64 0] 70) := Lib.hid ((show Blk _ w2.heap.size #[.int .i64 n3, .int .i64 n4, .int .i64 n5, .int .i64 0, .int .i64 0, .int .i64 0, .int .i64 0, .int .i64 0, .int .i64 0, .int .i64 0, .int .i64 0, .int .i64 0, .int .i64 0, .int .i64 0, .int .i64 0, .int .i64 0, .int .i64 0, .int .i64 0, .bool false, .int .i64 n6, .int .i64 0] 70 from (show Blk _ w2.heap.size #[.int .i64 n3, .int .i64 n4, .int .i64 n5, .int .i64 0, .int .i64 0, .int .i64 0, .int .i64 0, .int .i64 0, .int .i64 0, .int .i64 0, .int .i64 0, .int .i64 0, .int .i64 0, .int .i64 0, .int .i64 0, .int .i64 0, .int .i64 0, .int .i64 0, .bool false, .int .i64 n6, .int .i64 0] 70 from (B6.out.set 19 (.int .i64 n6)))).ext x7 (by omega))
  have A7 : Hid (Blk w7 w.heap.size #[.int .i64 0, .int .i64 0, .int .i64 0, .int .i64 0, .int .i64 0, .int .i64 0, .int .i64 0, .int .i64 0, .int .i64 0, .int .i64 0, .int .i64 0, .int .i64 0, .int .i64 0, .int .i64 0, .int .i64 0, .int .i64 0, .int .i64 0, .int .i64 0, .bool false, .int .i64 0, .int .i64 0] 70) := Lib.hid ((A6.out.far (p := ⟨w2.heap.size, 19, none⟩) (by show w.heap.size ≠ w2.heap.size; omega) (.int .i64 n6)).ext x7 (by omega))
  have X7 : Hid (Ext None_ w w7) := Lib.hid ((X6.out.setCell (p := ⟨w2.heap.size, 19, none⟩) (.inr (by show w.heap.size ≤ w2.heap.size; omega)) (.int .i64 n6)).trans x7 (fun i hi e => by exfalso; omega))
  have R7 := Lib.hid r7
  clear x7 r7 bc bf A6 B6 R6 X6
  by_cases he : (EndR l s6).fe = 0
  · have he1 : ((EndR l s6).fe != 0) = false := neT he
    have HE := Lib.hid he
    clear he
    have AA := Lib.hid A7.out
    have BB := Lib.hid B7.out
    have XX := Lib.hid X7.out
    go_wp2_with (first | (refine wpList_load_row rfl 70 (.tmp 5) rfl w2.heap.size rfl 70 _ (0, 0) _ BB.out Try.underlying70 rfl rqSize ?_) | (refine wpList_store_blk rfl 70 (.tmp 2) (.tmp 79) rfl w.heap.size #[.int .i64 n3, .int .i64 n4, .int .i64 n5, .int .i64 0, .int .i64 0, .int .i64 0, .int .i64 0, .int .i64 0, .int .i64 0, .int .i64 0, .int .i64 0, .int .i64 0, .int .i64 0, .int .i64 0, .int .i64 0, .int .i64 0, .int .i64 0, .int .i64 0, .bool false, .int .i64 n6, .int .i64 0] rfl rfl 70 #[.int .i64 0, .int .i64 0, .int .i64 0, .int .i64 0, .int .i64 0, .int .i64 0, .int .i64 0, .int .i64 0, .int .i64 0, .int .i64 0, .int .i64 0, .int .i64 0, .int .i64 0, .int .i64 0, .int .i64 0, .int .i64 0, .int .i64 0, .int .i64 0, .bool false, .int .i64 0, .int .i64 0] AA.out rqSize rfl rfl ?_; intro wz bz xz; have BZ := Lib.hid bz; have XZ := Lib.hid xz; clear bz xz))
    exact bodyPost_ret (v := .tuple #[.agg #[.int .i64 n3, .int .i64 n4, .int .i64 n5, .int .i64 0, .int .i64 0, .int .i64 0, .int .i64 0, .int .i64 0, .int .i64 0, .int .i64 0, .int .i64 0, .int .i64 0, .int .i64 0, .int .i64 0, .int .i64 0, .int .i64 0, .int .i64 0, .int .i64 0, .bool false, .int .i64 n6, .int .i64 0], .int .i64 0]) (results2_blk rfl _ _ w.heap.size 70 _ _ rfl rfl BZ.out Try.underlying70 rfl rqSize) rfl ⟨ret_dec (q := (⟨n3, n4, ⟨n5, ord0, drv0, n6, 0⟩⟩ : Rq)) (e := 0) (by rw [HDR.out]; exact decE_ok HE.out), XX.out.trans XZ.out (fun i hi e => by exfalso; omega)⟩
  · have he1 : ((EndR l s6).fe != 0) = true := neF he
    have HE := Lib.hid he
    obtain ⟨ef, hef⟩ : ∃ ef, ef = (EndR l s6).fe := ⟨_, rfl⟩
    rw [← hef] at he1 ⊢
    have HEF := Lib.hid hef
    clear he hef
    have AA := Lib.hid A7.out
    have BB := Lib.hid B7.out
    have XX := Lib.hid X7.out
    go_wp2_with ((refine wpList_store_blk rfl 70 (.tmp 2) (.tmp 77) rfl w.heap.size #[.int .i64 0, .int .i64 0, .int .i64 0, .int .i64 0, .int .i64 0, .int .i64 0, .int .i64 0, .int .i64 0, .int .i64 0, .int .i64 0, .int .i64 0, .int .i64 0, .int .i64 0, .int .i64 0, .int .i64 0, .int .i64 0, .int .i64 0, .int .i64 0, .bool false, .int .i64 0, .int .i64 0] rfl rfl 70 #[.int .i64 0, .int .i64 0, .int .i64 0, .int .i64 0, .int .i64 0, .int .i64 0, .int .i64 0, .int .i64 0, .int .i64 0, .int .i64 0, .int .i64 0, .int .i64 0, .int .i64 0, .int .i64 0, .int .i64 0, .int .i64 0, .int .i64 0, .int .i64 0, .bool false, .int .i64 0, .int .i64 0] AA.out rqSize rfl rfl ?_; intro wz bz xz; have BZ := Lib.hid bz; have XZ := Lib.hid xz; clear bz xz))
    exact bodyPost_ret (v := .tuple #[.agg #[.int .i64 0, .int .i64 0, .int .i64 0, .int .i64 0, .int .i64 0, .int .i64 0, .int .i64 0, .int .i64 0, .int .i64 0, .int .i64 0, .int .i64 0, .int .i64 0, .int .i64 0, .int .i64 0, .int .i64 0, .int .i64 0, .int .i64 0, .int .i64 0, .bool false, .int .i64 0, .int .i64 0], .int .i64 ef]) (results2_blk rfl _ _ w.heap.size 70 _ _ rfl rfl BZ.out Try.underlying70 rfl rqSize) rfl ⟨ret_dec (q := rq0) (e := ef) (by rw [HDR.out, HEF.out]; exact decE_bad HE.out), XX.out.trans XZ.out (fun i hi e => by exfalso; omega)⟩

set_option maxRecDepth 100000 in
set_option maxHeartbeats 16000000 in
theorem rdecode3_any (s : ByteArray) (w : World) (hs : s.size ≤ 140737488355328) (hc : (d3 (bytesOf s)).2.fe = 0 ∧ (d3 (bytesOf s)).1 = 3) :
    Calls Try.prog 53 #[.string s] w fun e w' => e = .returned (.tuple #[.agg (decR (bytesOf s)).1.cells, .int .i64 (decR (bytesOf s)).2]) ∧ Ext None_ w w' := by
  obtain ⟨A, c, W1, hconv, hx1, hrow, hsz⟩ := conv_bytes (w.alloc (.cells #[.int .i64 0, .int .i64 0, .int .i64 0, .int .i64 0, .int .i64 0, .int .i64 0, .int .i64 0, .int .i64 0, .int .i64 0, .int .i64 0, .int .i64 0, .int .i64 0, .int .i64 0, .int .i64 0, .int .i64 0, .int .i64 0, .int .i64 0, .int .i64 0, .bool false, .int .i64 0, .int .i64 0] 70)) s
  rw [show (w.alloc (.cells #[.int .i64 0, .int .i64 0, .int .i64 0, .int .i64 0, .int .i64 0, .int .i64 0, .int .i64 0, .int .i64 0, .int .i64 0, .int .i64 0, .int .i64 0, .int .i64 0, .int .i64 0, .int .i64 0, .int .i64 0, .int .i64 0, .int .i64 0, .int .i64 0, .bool false, .int .i64 0, .int .i64 0] 70)).heap.size = w.heap.size + 1 from by simp] at hsz
  have hln := bytesOf_length s
  have hby := Byt_of s
  obtain ⟨l, hl⟩ : ∃ l, l = bytesOf s := ⟨_, rfl⟩
  rw [← hl] at hconv hrow hln hby hc ⊢
  have HC := Lib.hid hc
  have HX1 := Lib.hid hx1
  have HROW := Lib.hid hrow
  have HLN := Lib.hid hln
  have HBY := Lib.hid hby
  have HSZ := Lib.hid hsz
  have hz1 : w.heap.size < W1.heap.size := by omega
  clear hx1 hrow hl hsz hc hln hby
  go_enter Try.func53, Try.ntmps53
  go_wp2_with fail
  refine (rRead_any A c l _ HROW.out HBY.out (by rw [HLN.out]; exact hs)).mono ?_
  rintro e w2 ⟨g, b, rfl, r0, hg, hb, x0_⟩
  have R0 := Lib.hid r0
  have hlt := r0.lt.1
  have hlt2 := r0.lt.2.1
  have hz2 : W1.heap.size ≤ w2.heap.size := x0_.size
  have A0 : Hid (Blk w2 w.heap.size #[.int .i64 0, .int .i64 0, .int .i64 0, .int .i64 0, .int .i64 0, .int .i64 0, .int .i64 0, .int .i64 0, .int .i64 0, .int .i64 0, .int .i64 0, .int .i64 0, .int .i64 0, .int .i64 0, .int .i64 0, .int .i64 0, .int .i64 0, .int .i64 0, .bool false, .int .i64 0, .int .i64 0] 70) := Lib.hid (((Blk.new w #[.int .i64 0, .int .i64 0, .int .i64 0, .int .i64 0, .int .i64 0, .int .i64 0, .int .i64 0, .int .i64 0, .int .i64 0, .int .i64 0, .int .i64 0, .int .i64 0, .int .i64 0, .int .i64 0, .int .i64 0, .int .i64 0, .int .i64 0, .int .i64 0, .bool false, .int .i64 0, .int .i64 0] 70).ext0 HX1.out).ext0 x0_)
  have X0 : Hid (Ext None_ w w2) := Lib.hid ((((x0 _ _).trans0 HX1.out)).trans0 x0_)
  clear x0_ r0 hconv HROW HX1
  have R0' := Lib.hid (R0.out.ext0 (x0 w2 (.cells #[.int .i64 0, .int .i64 0, .int .i64 0, .int .i64 0, .int .i64 0, .int .i64 0, .int .i64 0, .int .i64 0, .int .i64 0, .int .i64 0, .int .i64 0, .int .i64 0, .int .i64 0, .int .i64 0, .int .i64 0, .int .i64 0, .int .i64 0, .int .i64 0, .bool false, .int .i64 0, .int .i64 0] 70)))
  have A0' := Lib.hid (A0.out.alloc (.cells #[.int .i64 0, .int .i64 0, .int .i64 0, .int .i64 0, .int .i64 0, .int .i64 0, .int .i64 0, .int .i64 0, .int .i64 0, .int .i64 0, .int .i64 0, .int .i64 0, .int .i64 0, .int .i64 0, .int .i64 0, .int .i64 0, .int .i64 0, .int .i64 0, .bool false, .int .i64 0, .int .i64 0] 70))
  have X0' := Lib.hid (X0.out.alloc (.cells #[.int .i64 0, .int .i64 0, .int .i64 0, .int .i64 0, .int .i64 0, .int .i64 0, .int .i64 0, .int .i64 0, .int .i64 0, .int .i64 0, .int .i64 0, .int .i64 0, .int .i64 0, .int .i64 0, .int .i64 0, .int .i64 0, .int .i64 0, .int .i64 0, .bool false, .int .i64 0, .int .i64 0] 70))
  have B0 := Lib.hid (Blk.new w2 #[.int .i64 0, .int .i64 0, .int .i64 0, .int .i64 0, .int .i64 0, .int .i64 0, .int .i64 0, .int .i64 0, .int .i64 0, .int .i64 0, .int .i64 0, .int .i64 0, .int .i64 0, .int .i64 0, .int .i64 0, .int .i64 0, .int .i64 0, .int .i64 0, .bool false, .int .i64 0, .int .i64 0] 70)
  clear R0 A0 X0
  go_wp2_with fail
  refine (rNum_ex g b l ⟨0, 0, 0⟩ _ R0'.out).mono ?_
  rintro e w3 ⟨n3, s3, e3, rfl, r3, x3⟩
  have B3 : Hid (Blk w3 w2.heap.size #[.int .i64 0, .int .i64 0, .int .i64 0, .int .i64 0, .int .i64 0, .int .i64 0, .int .i64 0, .int .i64 0, .int .i64 0, .int .i64 0, .int .i64 0, .int .i64 0, .int .i64 0, .int .i64 0, .int .i64 0, .int .i64 0, .int .i64 0, .int .i64 0, .bool false, .int .i64 0, .int .i64 0] 70) := Lib.hid ((show Blk _ w2.heap.size #[.int .i64 0, .int .i64 0, .int .i64 0, .int .i64 0, .int .i64 0, .int .i64 0, .int .i64 0, .int .i64 0, .int .i64 0, .int .i64 0, .int .i64 0, .int .i64 0, .int .i64 0, .int .i64 0, .int .i64 0, .int .i64 0, .int .i64 0, .int .i64 0, .bool false, .int .i64 0, .int .i64 0] 70 from B0.out).ext x3 (by omega))
  have A3 : Hid (Blk w3 w.heap.size #[.int .i64 0, .int .i64 0, .int .i64 0, .int .i64 0, .int .i64 0, .int .i64 0, .int .i64 0, .int .i64 0, .int .i64 0, .int .i64 0, .int .i64 0, .int .i64 0, .int .i64 0, .int .i64 0, .int .i64 0, .int .i64 0, .int .i64 0, .int .i64 0, .bool false, .int .i64 0, .int .i64 0] 70) := Lib.hid (A0'.out.ext x3 (by omega))
  have X3 : Hid (Ext None_ w w3) := Lib.hid (X0'.out.trans x3 (fun i hi e => by exfalso; omega))
  have R3 := Lib.hid r3
  clear x3 r3 A0' B0 R0' X0'
  have E3 := Lib.hid e3
  clear e3
  have bc := B3.out.cell
  have bf := B3.out.frozen
  go_wp2_with fail
  refine (rNum_ex g b l s3 _ (R3.out.ext ((Ext.refl (fun k => k = w2.heap.size) w3).setCell (p := ⟨w2.heap.size, 0, none⟩) (.inl rfl) (.int .i64 n3)) (by omega) (by omega))).mono ?_
  rintro e w4 ⟨n4, s4, e4, rfl, r4, x4⟩
  have B4 : Hid (Blk w4 w2.heap.size #[.int .i64 n3, .int .i64 0, .int .i64 0, .int .i64 0, .int .i64 0, .int .i64 0, .int .i64 0, .int .i64 0, .int .i64 0, .int .i64 0, .int .i64 0, .int .i64 0, .int .i64 0, .int .i64 0, .int .i64 0, .int .i64 0, .int .i64 0, .int .i64 0, .bool false, .int .i64 0, .int .i64 0] 70) := Lib.hid ((show Blk _ w2.heap.size #[.int .i64 n3, .int .i64 0, .int .i64 0, .int .i64 0, .int .i64 0, .int .i64 0, .int .i64 0, .int .i64 0, .int .i64 0, .int .i64 0, .int .i64 0, .int .i64 0, .int .i64 0, .int .i64 0, .int .i64 0, .int .i64 0, .int .i64 0, .int .i64 0, .bool false, .int .i64 0, .int .i64 0] 70 from (show Blk _ w2.heap.size #[.int .i64 n3, .int .i64 0, .int .i64 0, .int .i64 0, .int .i64 0, .int .i64 0, .int .i64 0, .int .i64 0, .int .i64 0, .int .i64 0, .int .i64 0, .int .i64 0, .int .i64 0, .int .i64 0, .int .i64 0, .int .i64 0, .int .i64 0, .int .i64 0, .bool false, .int .i64 0, .int .i64 0] 70 from (B3.out.set 0 (.int .i64 n3)))).ext x4 (by omega))
  have A4 : Hid (Blk w4 w.heap.size #[.int .i64 0, .int .i64 0, .int .i64 0, .int .i64 0, .int .i64 0, .int .i64 0, .int .i64 0, .int .i64 0, .int .i64 0, .int .i64 0, .int .i64 0, .int .i64 0, .int .i64 0, .int .i64 0, .int .i64 0, .int .i64 0, .int .i64 0, .int .i64 0, .bool false, .int .i64 0, .int .i64 0] 70) := Lib.hid ((A3.out.far (p := ⟨w2.heap.size, 0, none⟩) (by show w.heap.size ≠ w2.heap.size; omega) (.int .i64 n3)).ext x4 (by omega))
  have X4 : Hid (Ext None_ w w4) := Lib.hid ((X3.out.setCell (p := ⟨w2.heap.size, 0, none⟩) (.inr (by show w.heap.size ≤ w2.heap.size; omega)) (.int .i64 n3)).trans x4 (fun i hi e => by exfalso; omega))
  have R4 := Lib.hid r4
  clear x4 r4 A3 B3 R3 X3
  have E4 := Lib.hid e4
  clear e4
  clear bc bf
  have bc := B4.out.cell
  have bf := B4.out.frozen
  go_wp2_with fail
  refine (rNum_ex g b l s4 _ (R4.out.ext ((Ext.refl (fun k => k = w2.heap.size) w4).setCell (p := ⟨w2.heap.size, 1, none⟩) (.inl rfl) (.int .i64 n4)) (by omega) (by omega))).mono ?_
  rintro e w5 ⟨n5, s5, e5, rfl, r5, x5⟩
  have B5 : Hid (Blk w5 w2.heap.size #[.int .i64 n3, .int .i64 n4, .int .i64 0, .int .i64 0, .int .i64 0, .int .i64 0, .int .i64 0, .int .i64 0, .int .i64 0, .int .i64 0, .int .i64 0, .int .i64 0, .int .i64 0, .int .i64 0, .int .i64 0, .int .i64 0, .int .i64 0, .int .i64 0, .bool false, .int .i64 0, .int .i64 0] 70) := Lib.hid ((show Blk _ w2.heap.size #[.int .i64 n3, .int .i64 n4, .int .i64 0, .int .i64 0, .int .i64 0, .int .i64 0, .int .i64 0, .int .i64 0, .int .i64 0, .int .i64 0, .int .i64 0, .int .i64 0, .int .i64 0, .int .i64 0, .int .i64 0, .int .i64 0, .int .i64 0, .int .i64 0, .bool false, .int .i64 0, .int .i64 0] 70 from (show Blk _ w2.heap.size #[.int .i64 n3, .int .i64 n4, .int .i64 0, .int .i64 0, .int .i64 0, .int .i64 0, .int .i64 0, .int .i64 0, .int .i64 0, .int .i64 0, .int .i64 0, .int .i64 0, .int .i64 0, .int .i64 0, .int .i64 0, .int .i64 0, .int .i64 0, .int .i64 0, .bool false, .int .i64 0, .int .i64 0] 70 from (B4.out.set 1 (.int .i64 n4)))).ext x5 (by omega))
  have A5 : Hid (Blk w5 w.heap.size #[.int .i64 0, .int .i64 0, .int .i64 0, .int .i64 0, .int .i64 0, .int .i64 0, .int .i64 0, .int .i64 0, .int .i64 0, .int .i64 0, .int .i64 0, .int .i64 0, .int .i64 0, .int .i64 0, .int .i64 0, .int .i64 0, .int .i64 0, .int .i64 0, .bool false, .int .i64 0, .int .i64 0] 70) := Lib.hid ((A4.out.far (p := ⟨w2.heap.size, 1, none⟩) (by show w.heap.size ≠ w2.heap.size; omega) (.int .i64 n4)).ext x5 (by omega))
  have X5 : Hid (Ext None_ w w5) := Lib.hid ((X4.out.setCell (p := ⟨w2.heap.size, 1, none⟩) (.inr (by show w.heap.size ≤ w2.heap.size; omega)) (.int .i64 n4)).trans x5 (fun i hi e => by exfalso; omega))
  have R5 := Lib.hid r5
  clear x5 r5 A4 B4 R4 X4
  have E5 := Lib.hid e5
  clear e5
  clear bc bf
  have bc := B5.out.cell
  have bf := B5.out.frozen
  have D3 : d3 l = (n5, s5) := by unfold d3 d2 d1; rw [E3.out, E4.out, E5.out]
  have D2 : d2 l = (n4, s4) := by unfold d2 d1; rw [E3.out, E4.out]
  have D1 : d1 l = (n3, s3) := E3.out
  have hc := HC.out
  rw [D3] at hc
  have hfe : (s5.fe == 0) = true := eqT hc.1
  have hfe' : (s5.fe != 0) = false := neT hc.1
  have hk : n5 = 3 := hc.2
  have hn : nmd n5 = ⟨false, true, false, false, true⟩ := by rw [hk]; simp [nmd]
  have HFE := Lib.hid hfe
  have k1 : (n5 == 1) = false := by rw [hk]; rfl
  have k3 : (n5 == 3) = true := by rw [hk]; rfl
  have k5 : (n5 == 5) = false := by rw [hk]; rfl
  have k6 : (n5 == 6) = false := by rw [hk]; rfl
  have kl : decide (n5 < 1) = false := by rw [hk]; rfl
  have kg : decide (7 < n5) = false := by rw [hk]; rfl
  have HK : Hid (n5 = 3 ∧ nmd n5 = ⟨false, true, false, false, true⟩ ∧ s5.fe = 0 ∧ d3 l = (n5, s5) ∧ d2 l = (n4, s4) ∧ d1 l = (n3, s3)) := Lib.hid ⟨hk, hn, hc.1, D3, D2, D1⟩
  clear hc hn hfe' D3 D2 D1 hk
  obtain ⟨_, _, ⟨g0_, g1_, g2_, g3_⟩, _⟩ := R5.out.cells
  have hne_ : ¬ g = w2.heap.size := (by omega)
  have hne2_ : ¬ w2.heap.size = g := (by omega)
  go_wp2_with fail
  refine (rgetDrv_any g b l s5 _ (R5.out.ext ((Ext.refl (fun k => k = w2.heap.size) w5).setCell (p := ⟨w2.heap.size, 2, none⟩) (.inl rfl) (.int .i64 n5)) (by omega) (by omega))).mono ?_
  rintro e w6 ⟨n6, s6, e6, rfl, r6, x6⟩
  have B6 : Hid (Blk w6 w2.heap.size #[.int .i64 n3, .int .i64 n4, .int .i64 n5, .int .i64 0, .int .i64 0, .int .i64 0, .int .i64 0, .int .i64 0, .int .i64 0, .int .i64 0, .int .i64 0, .int .i64 0, .int .i64 0, .int .i64 0, .int .i64 0, .int .i64 0, .int .i64 0, .int .i64 0, .bool false, .int .i64 0, .int .i64 0] 70) := Lib.hid ((show Blk _ w2.heap.size #[.int .i64 n3, .int .i64 n4, .int .i64 n5, .int .i64 0, .int .i64 0, .int .i64 0, .int .i64 0, .int .i64 0, .int .i64 0, .int .i64 0, .int .i64 0, .int .i64 0, .int .i64 0, .int .i64 0, .int .i64 0, .int .i64 0, .int .i64 0, .int .i64 0, .bool false, .int .i64 0, .int .i64 0] 70 from (show Blk _ w2.heap.size #[.int .i64 n3, .int .i64 n4, .int .i64 n5, .int .i64 0, .int .i64 0, .int .i64 0, .int .i64 0, .int .i64 0, .int .i64 0, .int .i64 0, .int .i64 0, .int .i64 0, .int .i64 0, .int .i64 0, .int .i64 0, .int .i64 0, .int .i64 0, .int .i64 0, .bool false, .int .i64 0, .int .i64 0] 70 from (B5.out.set 2 (.int .i64 n5)))).ext x6 (by omega))
  have A6 : Hid (Blk w6 w.heap.size #[.int .i64 0, .int .i64 0, .int .i64 0, .int .i64 0, .int .i64 0, .int .i64 0, .int .i64 0, .int .i64 0, .int .i64 0, .int .i64 0, .int .i64 0, .int .i64 0, .int .i64 0, .int .i64 0, .int .i64 0, .int .i64 0, .int .i64 0, .int .i64 0, .bool false, .int .i64 0, .int .i64 0] 70) := Lib.hid ((A5.out.far (p := ⟨w2.heap.size, 2, none⟩) (by show w.heap.size ≠ w2.heap.size; omega) (.int .i64 n5)).ext x6 (by omega))
  have X6 : Hid (Ext None_ w w6) := Lib.hid ((X5.out.setCell (p := ⟨w2.heap.size, 2, none⟩) (.inr (by show w.heap.size ≤ w2.heap.size; omega)) (.int .i64 n5)).trans x6 (fun i hi e => by exfalso; omega))
  have R6 := Lib.hid r6
  clear x6 r6 A5 B5 R5 X5
  have E6 := Lib.hid e6
  clear e6
  clear bc bf
  have bc := B6.out.cell
  have bf := B6.out.frozen
  clear g0_ g1_ g2_ g3_
  have HDR : Hid (decR l = decE l (⟨n3, n4, ⟨n5, ord0, n6, 0, 0⟩⟩ : Rq) s6) := Lib.hid (by obtain ⟨hk, hn, h0, D3, D2, D1⟩ := HK.out; have po4 : o4 l n5 s5 = (ord0, s5) := (by unfold o4; rw [hn]; first | done | rfl); have po5 : o5 l n5 s5 = (n6, s6) := (by unfold o5; rw [hn]; first | done | exact E6.out); have po6 : o6 l n5 s6 = (0, s6) := (by unfold o6; rw [hn]; first | done | rfl); have po7 : o7 l n5 s6 = (0, s6) := (by unfold o7; rw [hn]; first | done | rfl); unfold decR; rw [D3, D2, D1, if_neg (by rw [hn]; exact fun a => by cases a.2)]; simp only [decS, po4, po5, po6, po7])
  go_wp2_with fail
  refine (rEnd_any g b l s6 _ (R6.out.ext (((((((Ext.refl (fun k => k = w2.heap.size) w6).setCell (p := ⟨w2.heap.size, 13, none⟩) (.inl rfl) (.int .i64 n6.id)).setCell (p := ⟨w2.heap.size, 14, none⟩) (.inl rfl) (.int .i64 n6.room)).setCell (p := ⟨w2.heap.size, 15, none⟩) (.inl rfl) (.int .i64 n6.home)).setCell (p := ⟨w2.heap.size, 16, none⟩) (.inl rfl) (.int .i64 n6.f)).setCell (p := ⟨w2.heap.size, 17, none⟩) (.inl rfl) (.int .i64 n6.t)).setCell (p := ⟨w2.heap.size, 18, none⟩) (.inl rfl) (.bool n6.ret)) (by omega) (by omega))).mono ?_
  rintro e w7 ⟨rfl, r7, x7⟩
  have B7 : Hid (Blk w7 w2.heap.size #[.int .i64 n3, .int .i64 n4, .int .i64 n5, .int .i64 0, .int .i64 0, .int .i64 0, .int .i64 0, .int .i64 0, .int .i64 0, .int .i64 0, .int .i64 0, .int .i64 0, .int .i64 0, .int .i64 n6.id, .int .i64 n6.room, .int .i64 n6.home, .int .i64 n6.f, .int .i64 n6.t, .bool n6.ret, .int .i64 0, .int .i64 0] 70) := Lib.hid ((show Blk _ w2.heap.size #[.int .i64 n3, .int .i64 n4, .int .i64 n5, .int .i64 0, .int .i64 0, .int .i64 0, .int .i64 0, .int .i64 0, .int .i64 0, .int .i64 0, .int .i64 0, .int .i64 0, .int .i64 0, .int .i64 n6.id, .int .i64 n6.room, .int .i64 n6.home, .int .i64 n6.f, .int .i64 n6.t, .bool n6.ret, .int .i64 0, .int .i64 0] 70 from (show Blk _ w2.heap.size #[.int .i64 n3, .int .i64 n4, .int .i64 n5, .int .i64 0, .int .i64 0, .int .i64 0, .int .i64 0, .int .i64 0, .int .i64 0, .int .i64 0, .int .i64 0, .int .i64 0, .int .i64 0, .int .i64 n6.id, .int .i64 n6.room, .int .i64 n6.home, .int .i64 n6.f, .int .i64 n6.t, .bool n6.ret, .int .i64 0, .int .i64 0] 70 from ((show Blk _ w2.heap.size #[.int .i64 n3, .int .i64 n4, .int .i64 n5, .int .i64 0, .int .i64 0, .int .i64 0, .int .i64 0, .int .i64 0, .int .i64 0, .int .i64 0, .int .i64 0, .int .i64 0, .int .i64 0, .int .i64 n6.id, .int .i64 n6.room, .int .i64 n6.home, .int .i64 n6.f, .int .i64 n6.t, .bool false, .int .i64 0, .int .i64 0] 70 from ((show Blk _ w2.heap.size #[.int .i64 n3, .int .i64 n4, .int .i64 n5, .int .i64 0, .int .i64 0, .int .i64 0, .int .i64 0, .int .i64 0, .int .i64 0, .int .i64 0, .int .i64 0, .int .i64 0, .int .i64 0, .int .i64 n6.id, .int .i64 n6.room, .int .i64 n6.home, .int .i64 n6.f, .int .i64 0, .bool false, .int .i64 0, .int .i64 0] 70 from ((show Blk _ w2.heap.size #[.int .i64 n3, .int .i64 n4, .int .i64 n5, .int .i64 0, .int .i64 0, .int .i64 0, .int .i64 0, .int .i64 0, .int .i64 0, .int .i64 0, .int .i64 0, .int .i64 0, .int .i64 0, .int .i64 n6.id, .int .i64 n6.room, .int .i64 n6.home, .int .i64 0, .int .i64 0, .bool false, .int .i64 0, .int .i64 0] 70 from ((show Blk _ w2.heap.size #[.int .i64 n3, .int .i64 n4, .int .i64 n5, .int .i64 0, .int .i64 0, .int .i64 0, .int .i64 0, .int .i64 0, .int .i64 0, .int .i64 0, .int .i64 0, .int .i64 0, .int .i64 0, .int .i64 n6.id, .int .i64 n6.room, .int .i64 0, .int .i64 0, .int .i64 0, .bool false, .int .i64 0, .int .i64 0] 70 from ((show Blk _ w2.heap.size #[.int .i64 n3, .int .i64 n4, .int .i64 n5, .int .i64 0, .int .i64 0, .int .i64 0, .int .i64 0, .int .i64 0, .int .i64 0, .int .i64 0, .int .i64 0, .int .i64 0, .int .i64 0, .int .i64 n6.id, .int .i64 0, .int .i64 0, .int .i64 0, .int .i64 0, .bool false, .int .i64 0, .int .i64 0] 70 from (B6.out.set 13 (.int .i64 n6.id))).set 14 (.int .i64 n6.room))).set 15 (.int .i64 n6.home))).set 16 (.int .i64 n6.f))).set 17 (.int .i64 n6.t))).set 18 (.bool n6.ret)))).ext x7 (by omega))
  have A7 : Hid (Blk w7 w.heap.size #[.int .i64 0, .int .i64 0, .int .i64 0, .int .i64 0, .int .i64 0, .int .i64 0, .int .i64 0, .int .i64 0, .int .i64 0, .int .i64 0, .int .i64 0, .int .i64 0, .int .i64 0, .int .i64 0, .int .i64 0, .int .i64 0, .int .i64 0, .int .i64 0, .bool false, .int .i64 0, .int .i64 0] 70) := Lib.hid (((((((A6.out.far (p := ⟨w2.heap.size, 13, none⟩) (by show w.heap.size ≠ w2.heap.size; omega) (.int .i64 n6.id)).far (p := ⟨w2.heap.size, 14, none⟩) (by show w.heap.size ≠ w2.heap.size; omega) (.int .i64 n6.room)).far (p := ⟨w2.heap.size, 15, none⟩) (by show w.heap.size ≠ w2.heap.size; omega) (.int .i64 n6.home)).far (p := ⟨w2.heap.size, 16, none⟩) (by show w.heap.size ≠ w2.heap.size; omega) (.int .i64 n6.f)).far (p := ⟨w2.heap.size, 17, none⟩) (by show w.heap.size ≠ w2.heap.size; omega) (.int .i64 n6.t)).far (p := ⟨w2.heap.size, 18, none⟩) (by show w.heap.size ≠ w2.heap.size; omega) (.bool n6.ret)).ext x7 (by omega))
  have X7 : Hid (Ext None_ w w7) := Lib.hid (((((((X6.out.setCell (p := ⟨w2.heap.size, 13, none⟩) (.inr (by show w.heap.size ≤ w2.heap.size; omega)) (.int .i64 n6.id)).setCell (p := ⟨w2.heap.size, 14, none⟩) (.inr (by show w.heap.size ≤ w2.heap.size; omega)) (.int .i64 n6.room)).setCell (p := ⟨w2.heap.size, 15, none⟩) (.inr (by show w.heap.size ≤ w2.heap.size; omega)) (.int .i64 n6.home)).setCell (p := ⟨w2.heap.size, 16, none⟩) (.inr (by show w.heap.size ≤ w2.heap.size; omega)) (.int .i64 n6.f)).setCell (p := ⟨w2.heap.size, 17, none⟩) (.inr (by show w.heap.size ≤ w2.heap.size; omega)) (.int .i64 n6.t)).setCell (p := ⟨w2.heap.size, 18, none⟩) (.inr (by show w.heap.size ≤ w2.heap.size; omega)) (.bool n6.ret)).trans x7 (fun i hi e => by exfalso; omega))
  have R7 := Lib.hid r7
  clear x7 r7 bc bf A6 B6 R6 X6
  by_cases he : (EndR l s6).fe = 0
  · have he1 : ((EndR l s6).fe != 0) = false := neT he
    have HE := Lib.hid he
    clear he
    have AA := Lib.hid A7.out
    have BB := Lib.hid B7.out
    have XX := Lib.hid X7.out
    go_wp2_with (first | (refine wpList_load_row rfl 70 (.tmp 5) rfl w2.heap.size rfl 70 _ (0, 0) _ BB.out Try.underlying70 rfl rqSize ?_) | (refine wpList_store_blk rfl 70 (.tmp 2) (.tmp 79) rfl w.heap.size #[.int .i64 n3, .int .i64 n4, .int .i64 n5, .int .i64 0, .int .i64 0, .int .i64 0, .int .i64 0, .int .i64 0, .int .i64 0, .int .i64 0, .int .i64 0, .int .i64 0, .int .i64 0, .int .i64 n6.id, .int .i64 n6.room, .int .i64 n6.home, .int .i64 n6.f, .int .i64 n6.t, .bool n6.ret, .int .i64 0, .int .i64 0] rfl rfl 70 #[.int .i64 0, .int .i64 0, .int .i64 0, .int .i64 0, .int .i64 0, .int .i64 0, .int .i64 0, .int .i64 0, .int .i64 0, .int .i64 0, .int .i64 0, .int .i64 0, .int .i64 0, .int .i64 0, .int .i64 0, .int .i64 0, .int .i64 0, .int .i64 0, .bool false, .int .i64 0, .int .i64 0] AA.out rqSize rfl rfl ?_; intro wz bz xz; have BZ := Lib.hid bz; have XZ := Lib.hid xz; clear bz xz))
    exact bodyPost_ret (v := .tuple #[.agg #[.int .i64 n3, .int .i64 n4, .int .i64 n5, .int .i64 0, .int .i64 0, .int .i64 0, .int .i64 0, .int .i64 0, .int .i64 0, .int .i64 0, .int .i64 0, .int .i64 0, .int .i64 0, .int .i64 n6.id, .int .i64 n6.room, .int .i64 n6.home, .int .i64 n6.f, .int .i64 n6.t, .bool n6.ret, .int .i64 0, .int .i64 0], .int .i64 0]) (results2_blk rfl _ _ w.heap.size 70 _ _ rfl rfl BZ.out Try.underlying70 rfl rqSize) rfl ⟨ret_dec (q := (⟨n3, n4, ⟨n5, ord0, n6, 0, 0⟩⟩ : Rq)) (e := 0) (by rw [HDR.out]; exact decE_ok HE.out), XX.out.trans XZ.out (fun i hi e => by exfalso; omega)⟩
  · have he1 : ((EndR l s6).fe != 0) = true := neF he
    have HE := Lib.hid he
    obtain ⟨ef, hef⟩ : ∃ ef, ef = (EndR l s6).fe := ⟨_, rfl⟩
    rw [← hef] at he1 ⊢
    have HEF := Lib.hid hef
    clear he hef
    have AA := Lib.hid A7.out
    have BB := Lib.hid B7.out
    have XX := Lib.hid X7.out
    go_wp2_with ((refine wpList_store_blk rfl 70 (.tmp 2) (.tmp 77) rfl w.heap.size #[.int .i64 0, .int .i64 0, .int .i64 0, .int .i64 0, .int .i64 0, .int .i64 0, .int .i64 0, .int .i64 0, .int .i64 0, .int .i64 0, .int .i64 0, .int .i64 0, .int .i64 0, .int .i64 0, .int .i64 0, .int .i64 0, .int .i64 0, .int .i64 0, .bool false, .int .i64 0, .int .i64 0] rfl rfl 70 #[.int .i64 0, .int .i64 0, .int .i64 0, .int .i64 0, .int .i64 0, .int .i64 0, .int .i64 0, .int .i64 0, .int .i64 0, .int .i64 0, .int .i64 0, .int .i64 0, .int .i64 0, .int .i64 0, .int .i64 0, .int .i64 0, .int .i64 0, .int .i64 0, .bool false, .int .i64 0, .int .i64 0] AA.out rqSize rfl rfl ?_; intro wz bz xz; have BZ := Lib.hid bz; have XZ := Lib.hid xz; clear bz xz))
    exact bodyPost_ret (v := .tuple #[.agg #[.int .i64 0, .int .i64 0, .int .i64 0, .int .i64 0, .int .i64 0, .int .i64 0, .int .i64 0, .int .i64 0, .int .i64 0, .int .i64 0, .int .i64 0, .int .i64 0, .int .i64 0, .int .i64 0, .int .i64 0, .int .i64 0, .int .i64 0, .int .i64 0, .bool false, .int .i64 0, .int .i64 0], .int .i64 ef]) (results2_blk rfl _ _ w.heap.size 70 _ _ rfl rfl BZ.out Try.underlying70 rfl rqSize) rfl ⟨ret_dec (q := rq0) (e := ef) (by rw [HDR.out, HEF.out]; exact decE_bad HE.out), XX.out.trans XZ.out (fun i hi e => by exfalso; omega)⟩

set_option maxRecDepth 100000 in
set_option maxHeartbeats 16000000 in
theorem rdecode5_any (s : ByteArray) (w : World) (hs : s.size ≤ 140737488355328) (hc : (d3 (bytesOf s)).2.fe = 0 ∧ (d3 (bytesOf s)).1 = 5) :
    Calls Try.prog 53 #[.string s] w fun e w' => e = .returned (.tuple #[.agg (decR (bytesOf s)).1.cells, .int .i64 (decR (bytesOf s)).2]) ∧ Ext None_ w w' := by
  obtain ⟨A, c, W1, hconv, hx1, hrow, hsz⟩ := conv_bytes (w.alloc (.cells #[.int .i64 0, .int .i64 0, .int .i64 0, .int .i64 0, .int .i64 0, .int .i64 0, .int .i64 0, .int .i64 0, .int .i64 0, .int .i64 0, .int .i64 0, .int .i64 0, .int .i64 0, .int .i64 0, .int .i64 0, .int .i64 0, .int .i64 0, .int .i64 0, .bool false, .int .i64 0, .int .i64 0] 70)) s
  rw [show (w.alloc (.cells #[.int .i64 0, .int .i64 0, .int .i64 0, .int .i64 0, .int .i64 0, .int .i64 0, .int .i64 0, .int .i64 0, .int .i64 0, .int .i64 0, .int .i64 0, .int .i64 0, .int .i64 0, .int .i64 0, .int .i64 0, .int .i64 0, .int .i64 0, .int .i64 0, .bool false, .int .i64 0, .int .i64 0] 70)).heap.size = w.heap.size + 1 from by simp] at hsz
  have hln := bytesOf_length s
  have hby := Byt_of s
  obtain ⟨l, hl⟩ : ∃ l, l = bytesOf s := ⟨_, rfl⟩
  rw [← hl] at hconv hrow hln hby hc ⊢
  have HC := Lib.hid hc
  have HX1 := Lib.hid hx1
  have HROW := Lib.hid hrow
  have HLN := Lib.hid hln
  have HBY := Lib.hid hby
  have HSZ := Lib.hid hsz
  have hz1 : w.heap.size < W1.heap.size := by omega
  clear hx1 hrow hl hsz hc hln hby
  go_enter Try.func53, Try.ntmps53
  go_wp2_with fail
  refine (rRead_any A c l _ HROW.out HBY.out (by rw [HLN.out]; exact hs)).mono ?_
  rintro e w2 ⟨g, b, rfl, r0, hg, hb, x0_⟩
  have R0 := Lib.hid r0
  have hlt := r0.lt.1
  have hlt2 := r0.lt.2.1
  have hz2 : W1.heap.size ≤ w2.heap.size := x0_.size
  have A0 : Hid (Blk w2 w.heap.size #[.int .i64 0, .int .i64 0, .int .i64 0, .int .i64 0, .int .i64 0, .int .i64 0, .int .i64 0, .int .i64 0, .int .i64 0, .int .i64 0, .int .i64 0, .int .i64 0, .int .i64 0, .int .i64 0, .int .i64 0, .int .i64 0, .int .i64 0, .int .i64 0, .bool false, .int .i64 0, .int .i64 0] 70) := Lib.hid (((Blk.new w #[.int .i64 0, .int .i64 0, .int .i64 0, .int .i64 0, .int .i64 0, .int .i64 0, .int .i64 0, .int .i64 0, .int .i64 0, .int .i64 0, .int .i64 0, .int .i64 0, .int .i64 0, .int .i64 0, .int .i64 0, .int .i64 0, .int .i64 0, .int .i64 0, .bool false, .int .i64 0, .int .i64 0] 70).ext0 HX1.out).ext0 x0_)
  have X0 : Hid (Ext None_ w w2) := Lib.hid ((((x0 _ _).trans0 HX1.out)).trans0 x0_)
  clear x0_ r0 hconv HROW HX1
  have R0' := Lib.hid (R0.out.ext0 (x0 w2 (.cells #[.int .i64 0, .int .i64 0, .int .i64 0, .int .i64 0, .int .i64 0, .int .i64 0, .int .i64 0, .int .i64 0, .int .i64 0, .int .i64 0, .int .i64 0, .int .i64 0, .int .i64 0, .int .i64 0, .int .i64 0, .int .i64 0, .int .i64 0, .int .i64 0, .bool false, .int .i64 0, .int .i64 0] 70)))
  have A0' := Lib.hid (A0.out.alloc (.cells #[.int .i64 0, .int .i64 0, .int .i64 0, .int .i64 0, .int .i64 0, .int .i64 0, .int .i64 0, .int .i64 0, .int .i64 0, .int .i64 0, .int .i64 0, .int .i64 0, .int .i64 0, .int .i64 0, .int .i64 0, .int .i64 0, .int .i64 0, .int .i64 0, .bool false, .int .i64 0, .int .i64 0] 70))
  have X0' := Lib.hid (X0.out.alloc (.cells #[.int .i64 0, .int .i64 0, .int .i64 0, .int .i64 0, .int .i64 0, .int .i64 0, .int .i64 0, .int .i64 0, .int .i64 0, .int .i64 0, .int .i64 0, .int .i64 0, .int .i64 0, .int .i64 0, .int .i64 0, .int .i64 0, .int .i64 0, .int .i64 0, .bool false, .int .i64 0, .int .i64 0] 70))
  have B0 := Lib.hid (Blk.new w2 #[.int .i64 0, .int .i64 0, .int .i64 0, .int .i64 0, .int .i64 0, .int .i64 0, .int .i64 0, .int .i64 0, .int .i64 0, .int .i64 0, .int .i64 0, .int .i64 0, .int .i64 0, .int .i64 0, .int .i64 0, .int .i64 0, .int .i64 0, .int .i64 0, .bool false, .int .i64 0, .int .i64 0] 70)
  clear R0 A0 X0
  go_wp2_with fail
  refine (rNum_ex g b l ⟨0, 0, 0⟩ _ R0'.out).mono ?_
  rintro e w3 ⟨n3, s3, e3, rfl, r3, x3⟩
  have B3 : Hid (Blk w3 w2.heap.size #[.int .i64 0, .int .i64 0, .int .i64 0, .int .i64 0, .int .i64 0, .int .i64 0, .int .i64 0, .int .i64 0, .int .i64 0, .int .i64 0, .int .i64 0, .int .i64 0, .int .i64 0, .int .i64 0, .int .i64 0, .int .i64 0, .int .i64 0, .int .i64 0, .bool false, .int .i64 0, .int .i64 0] 70) := Lib.hid ((show Blk _ w2.heap.size #[.int .i64 0, .int .i64 0, .int .i64 0, .int .i64 0, .int .i64 0, .int .i64 0, .int .i64 0, .int .i64 0, .int .i64 0, .int .i64 0, .int .i64 0, .int .i64 0, .int .i64 0, .int .i64 0, .int .i64 0, .int .i64 0, .int .i64 0, .int .i64 0, .bool false, .int .i64 0, .int .i64 0] 70 from B0.out).ext x3 (by omega))
  have A3 : Hid (Blk w3 w.heap.size #[.int .i64 0, .int .i64 0, .int .i64 0, .int .i64 0, .int .i64 0, .int .i64 0, .int .i64 0, .int .i64 0, .int .i64 0, .int .i64 0, .int .i64 0, .int .i64 0, .int .i64 0, .int .i64 0, .int .i64 0, .int .i64 0, .int .i64 0, .int .i64 0, .bool false, .int .i64 0, .int .i64 0] 70) := Lib.hid (A0'.out.ext x3 (by omega))
  have X3 : Hid (Ext None_ w w3) := Lib.hid (X0'.out.trans x3 (fun i hi e => by exfalso; omega))
  have R3 := Lib.hid r3
  clear x3 r3 A0' B0 R0' X0'
  have E3 := Lib.hid e3
  clear e3
  have bc := B3.out.cell
  have bf := B3.out.frozen
  go_wp2_with fail
  refine (rNum_ex g b l s3 _ (R3.out.ext ((Ext.refl (fun k => k = w2.heap.size) w3).setCell (p := ⟨w2.heap.size, 0, none⟩) (.inl rfl) (.int .i64 n3)) (by omega) (by omega))).mono ?_
  rintro e w4 ⟨n4, s4, e4, rfl, r4, x4⟩
  have B4 : Hid (Blk w4 w2.heap.size #[.int .i64 n3, .int .i64 0, .int .i64 0, .int .i64 0, .int .i64 0, .int .i64 0, .int .i64 0, .int .i64 0, .int .i64 0, .int .i64 0, .int .i64 0, .int .i64 0, .int .i64 0, .int .i64 0, .int .i64 0, .int .i64 0, .int .i64 0, .int .i64 0, .bool false, .int .i64 0, .int .i64 0] 70) := Lib.hid ((show Blk _ w2.heap.size #[.int .i64 n3, .int .i64 0, .int .i64 0, .int .i64 0, .int .i64 0, .int .i64 0, .int .i64 0, .int .i64 0, .int .i64 0, .int .i64 0, .int .i64 0, .int .i64 0, .int .i64 0, .int .i64 0, .int .i64 0, .int .i64 0, .int .i64 0, .int .i64 0, .bool false, .int .i64 0, .int .i64 0] 70 from (show Blk _ w2.heap.size #[.int .i64 n3, .int .i64 0, .int .i64 0, .int .i64 0, .int .i64 0, .int .i64 0, .int .i64 0, .int .i64 0, .int .i64 0, .int .i64 0, .int .i64 0, .int .i64 0, .int .i64 0, .int .i64 0, .int .i64 0, .int .i64 0, .int .i64 0, .int .i64 0, .bool false, .int .i64 0, .int .i64 0] 70 from (B3.out.set 0 (.int .i64 n3)))).ext x4 (by omega))
  have A4 : Hid (Blk w4 w.heap.size #[.int .i64 0, .int .i64 0, .int .i64 0, .int .i64 0, .int .i64 0, .int .i64 0, .int .i64 0, .int .i64 0, .int .i64 0, .int .i64 0, .int .i64 0, .int .i64 0, .int .i64 0, .int .i64 0, .int .i64 0, .int .i64 0, .int .i64 0, .int .i64 0, .bool false, .int .i64 0, .int .i64 0] 70) := Lib.hid ((A3.out.far (p := ⟨w2.heap.size, 0, none⟩) (by show w.heap.size ≠ w2.heap.size; omega) (.int .i64 n3)).ext x4 (by omega))
  have X4 : Hid (Ext None_ w w4) := Lib.hid ((X3.out.setCell (p := ⟨w2.heap.size, 0, none⟩) (.inr (by show w.heap.size ≤ w2.heap.size; omega)) (.int .i64 n3)).trans x4 (fun i hi e => by exfalso; omega))
  have R4 := Lib.hid r4
  clear x4 r4 A3 B3 R3 X3
  have E4 := Lib.hid e4
  clear e4
  clear bc bf
  have bc := B4.out.cell
  have bf := B4.out.frozen
  go_wp2_with fail
  refine (rNum_ex g b l s4 _ (R4.out.ext ((Ext.refl (fun k => k = w2.heap.size) w4).setCell (p := ⟨w2.heap.size, 1, none⟩) (.inl rfl) (.int .i64 n4)) (by omega) (by omega))).mono ?_
  rintro e w5 ⟨n5, s5, e5, rfl, r5, x5⟩
  have B5 : Hid (Blk w5 w2.heap.size #[.int .i64 n3, .int .i64 n4, .int .i64 0, .int .i64 0, .int .i64 0, .int .i64 0, .int .i64 0, .int .i64 0, .int .i64 0, .int .i64 0, .int .i64 0, .int .i64 0, .int .i64 0, .int .i64 0, .int .i64 0, .int .i64 0, .int .i64 0, .int .i64 0, .bool false, .int .i64 0, .int .i64 0] 70) := Lib.hid ((show Blk _ w2.heap.size #[.int .i64 n3, .int .i64 n4, .int .i64 0, .int .i64 0, .int .i64 0, .int .i64 0, .int .i64 0, .int .i64 0, .int .i64 0, .int .i64 0, .int .i64 0, .int .i64 0, .int .i64 0, .int .i64 0, .int .i64 0, .int .i64 0, .int .i64 0, .int .i64 0, .bool false, .int .i64 0, .int .i64 0] 70 from (show Blk _ w2.heap.size #[.int .i64 n3, .int .i64 n4, .int .i64 0, .int .i64 0, .int .i64 0, .int .i64 0, .int .i64 0, .int .i64 0, .int .i64 0, .int .i64 0, .int .i64 0, .int .i64 0, .int .i64 0, .int .i64 0, .int .i64 0, .int .i64 0, .int .i64 0, .int .i64 0, .bool false, .int .i64 0, .int .i64 0] 70 from (B4.out.set 1 (.int .i64 n4)))).ext x5 (by omega))
  have A5 : Hid (Blk w5 w.heap.size #[.int .i64 0, .int .i64 0, .int .i64 0, .int .i64 0, .int .i64 0, .int .i64 0, .int .i64 0, .int .i64 0, .int .i64 0, .int .i64 0, .int .i64 0, .int .i64 0, .int .i64 0, .int .i64 0, .int .i64 0, .int .i64 0, .int .i64 0, .int .i64 0, .bool false, .int .i64 0, .int .i64 0] 70) := Lib.hid ((A4.out.far (p := ⟨w2.heap.size, 1, none⟩) (by show w.heap.size ≠ w2.heap.size; omega) (.int .i64 n4)).ext x5 (by omega))
  have X5 : Hid (Ext None_ w w5) := Lib.hid ((X4.out.setCell (p := ⟨w2.heap.size, 1, none⟩) (.inr (by show w.heap.size ≤ w2.heap.size; omega)) (.int .i64 n4)).trans x5 (fun i hi e => by exfalso; omega))
  have R5 := Lib.hid r5
  clear x5 r5 A4 B4 R4 X4
  have E5 := Lib.hid e5
  clear e5
  clear bc bf
  have bc := B5.out.cell
  have bf := B5.out.frozen
  have D3 : d3 l = (n5, s5) := by unfold d3 d2 d1; rw [E3.out, E4.out, E5.out]
  have D2 : d2 l = (n4, s4) := by unfold d2 d1; rw [E3.out, E4.out]
  have D1 : d1 l = (n3, s3) := E3.out
  have hc := HC.out
  rw [D3] at hc
  have hfe : (s5.fe == 0) = true := eqT hc.1
  have hfe' : (s5.fe != 0) = false := neT hc.1
  have hk : n5 = 5 := hc.2
  have hn : nmd n5 = ⟨false, false, true, true, true⟩ := by rw [hk]; simp [nmd]
  have HFE := Lib.hid hfe
  have k1 : (n5 == 1) = false := by rw [hk]; rfl
  have k3 : (n5 == 3) = false := by rw [hk]; rfl
  have k5 : (n5 == 5) = true := by rw [hk]; rfl
  have k6 : (n5 == 6) = false := by rw [hk]; rfl
  have kl : decide (n5 < 1) = false := by rw [hk]; rfl
  have kg : decide (7 < n5) = false := by rw [hk]; rfl
  have HK : Hid (n5 = 5 ∧ nmd n5 = ⟨false, false, true, true, true⟩ ∧ s5.fe = 0 ∧ d3 l = (n5, s5) ∧ d2 l = (n4, s4) ∧ d1 l = (n3, s3)) := Lib.hid ⟨hk, hn, hc.1, D3, D2, D1⟩
  clear hc hn hfe' D3 D2 D1 hk
  obtain ⟨_, _, ⟨g0_, g1_, g2_, g3_⟩, _⟩ := R5.out.cells
  have hne_ : ¬ g = w2.heap.size := (by omega)
  have hne2_ : ¬ w2.heap.size = g := (by omega)
  go_wp2_with fail
  refine (rNum_ex g b l s5 _ (R5.out.ext ((Ext.refl (fun k => k = w2.heap.size) w5).setCell (p := ⟨w2.heap.size, 2, none⟩) (.inl rfl) (.int .i64 n5)) (by omega) (by omega))).mono ?_
  rintro e w6 ⟨n6, s6, e6, rfl, r6, x6⟩
  have B6 : Hid (Blk w6 w2.heap.size #[.int .i64 n3, .int .i64 n4, .int .i64 n5, .int .i64 0, .int .i64 0, .int .i64 0, .int .i64 0, .int .i64 0, .int .i64 0, .int .i64 0, .int .i64 0, .int .i64 0, .int .i64 0, .int .i64 0, .int .i64 0, .int .i64 0, .int .i64 0, .int .i64 0, .bool false, .int .i64 0, .int .i64 0] 70) := Lib.hid ((show Blk _ w2.heap.size #[.int .i64 n3, .int .i64 n4, .int .i64 n5, .int .i64 0, .int .i64 0, .int .i64 0, .int .i64 0, .int .i64 0, .int .i64 0, .int .i64 0, .int .i64 0, .int .i64 0, .int .i64 0, .int .i64 0, .int .i64 0, .int .i64 0, .int .i64 0, .int .i64 0, .bool false, .int .i64 0, .int .i64 0] 70 from (show Blk _ w2.heap.size #[.int .i64 n3, .int .i64 n4, .int .i64 n5, .int .i64 0, .int .i64 0, .int .i64 0, .int .i64 0, .int .i64 0, .int .i64 0, .int .i64 0, .int .i64 0, .int .i64 0, .int .i64 0, .int .i64 0, .int .i64 0, .int .i64 0, .int .i64 0, .int .i64 0, .bool false, .int .i64 0, .int .i64 0] 70 from (B5.out.set 2 (.int .i64 n5)))).ext x6 (by omega))
  have A6 : Hid (Blk w6 w.heap.size #[.int .i64 0, .int .i64 0, .int .i64 0, .int .i64 0, .int .i64 0, .int .i64 0, .int .i64 0, .int .i64 0, .int .i64 0, .int .i64 0, .int .i64 0, .int .i64 0, .int .i64 0, .int .i64 0, .int .i64 0, .int .i64 0, .int .i64 0, .int .i64 0, .bool false, .int .i64 0, .int .i64 0] 70) := Lib.hid ((A5.out.far (p := ⟨w2.heap.size, 2, none⟩) (by show w.heap.size ≠ w2.heap.size; omega) (.int .i64 n5)).ext x6 (by omega))
  have X6 : Hid (Ext None_ w w6) := Lib.hid ((X5.out.setCell (p := ⟨w2.heap.size, 2, none⟩) (.inr (by show w.heap.size ≤ w2.heap.size; omega)) (.int .i64 n5)).trans x6 (fun i hi e => by exfalso; omega))
  have R6 := Lib.hid r6
  clear x6 r6 A5 B5 R5 X5
  have E6 := Lib.hid e6
  clear e6
  clear bc bf
  have bc := B6.out.cell
  have bf := B6.out.frozen
  clear g0_ g1_ g2_ g3_
  go_wp2_with fail
  refine (rNum_ex g b l s6 _ (R6.out.ext ((Ext.refl (fun k => k = w2.heap.size) w6).setCell (p := ⟨w2.heap.size, 19, none⟩) (.inl rfl) (.int .i64 n6)) (by omega) (by omega))).mono ?_
  rintro e w7 ⟨n7, s7, e7, rfl, r7, x7⟩
  have B7 : Hid (Blk w7 w2.heap.size #[.int .i64 n3, .int .i64 n4, .int .i64 n5, .int .i64 0, .int .i64 0, .int .i64 0, .int .i64 0, .int .i64 0, .int .i64 0, .int .i64 0, .int .i64 0, .int .i64 0, .int .i64 0, .int .i64 0, .int .i64 0, .int .i64 0, .int .i64 0, .int .i64 0, .bool false, .int .i64 n6, .int .i64 0] 70) := Lib.hid ((show Blk _ w2.heap.size #[.int .i64 n3, .int .i64 n4, .int .i64 n5, .int .i64 0, .int .i64 0, .int .i64 0, .int .i64 0, .int .i64 0, .int .i64 0, .int .i64 0, .int .i64 0, .int .i64 0, .int .i64 0, .int .i64 0, .int .i64 0, .int .i64 0, .int .i64 0, .int .i64 0, .bool false, .int .i64 n6, .int .i64 0] 70 from (show Blk _ w2.heap.size #[.int .i64 n3, .int .i64 n4, .int .i64 n5, .int .i64 0, .int .i64 0, .int .i64 0, .int .i64 0, .int .i64 0, .int .i64 0, .int .i64 0, .int .i64 0, .int .i64 0, .int .i64 0, .int .i64 0, .int .i64 0, .int .i64 0, .int .i64 0, .int .i64 0, .bool false, .int .i64 n6, .int .i64 0] 70 from (B6.out.set 19 (.int .i64 n6)))).ext x7 (by omega))
  have A7 : Hid (Blk w7 w.heap.size #[.int .i64 0, .int .i64 0, .int .i64 0, .int .i64 0, .int .i64 0, .int .i64 0, .int .i64 0, .int .i64 0, .int .i64 0, .int .i64 0, .int .i64 0, .int .i64 0, .int .i64 0, .int .i64 0, .int .i64 0, .int .i64 0, .int .i64 0, .int .i64 0, .bool false, .int .i64 0, .int .i64 0] 70) := Lib.hid ((A6.out.far (p := ⟨w2.heap.size, 19, none⟩) (by show w.heap.size ≠ w2.heap.size; omega) (.int .i64 n6)).ext x7 (by omega))
  have X7 : Hid (Ext None_ w w7) := Lib.hid ((X6.out.setCell (p := ⟨w2.heap.size, 19, none⟩) (.inr (by show w.heap.size ≤ w2.heap.size; omega)) (.int .i64 n6)).trans x7 (fun i hi e => by exfalso; omega))
  have R7 := Lib.hid r7
  clear x7 r7 A6 B6 R6 X6
  have E7 := Lib.hid e7
  clear e7
  clear bc bf
  have bc := B7.out.cell
  have bf := B7.out.frozen
  have HDR : Hid (decR l = decE l (⟨n3, n4, ⟨n5, ord0, drv0, n6, n7⟩⟩ : Rq) s7) := Lib.hid (by obtain ⟨hk, hn, h0, D3, D2, D1⟩ := HK.out; have po4 : o4 l n5 s5 = (ord0, s5) := (by unfold o4; rw [hn]; first | done | rfl); have po5 : o5 l n5 s5 = (drv0, s5) := (by unfold o5; rw [hn]; first | done | rfl); have po6 : o6 l n5 s5 = (n6, s6) := (by unfold o6; rw [hn]; first | done | exact E6.out); have po7 : o7 l n5 s6 = (n7, s7) := (by unfold o7; rw [hn]; first | done | exact E7.out); unfold decR; rw [D3, D2, D1, if_neg (by rw [hn]; exact fun a => by cases a.2)]; simp only [decS, po4, po5, po6, po7])
  go_wp2_with fail
  refine (rEnd_any g b l s7 _ (R7.out.ext ((Ext.refl (fun k => k = w2.heap.size) w7).setCell (p := ⟨w2.heap.size, 20, none⟩) (.inl rfl) (.int .i64 n7)) (by omega) (by omega))).mono ?_
  rintro e w8 ⟨rfl, r8, x8⟩
  have B8 : Hid (Blk w8 w2.heap.size #[.int .i64 n3, .int .i64 n4, .int .i64 n5, .int .i64 0, .int .i64 0, .int .i64 0, .int .i64 0, .int .i64 0, .int .i64 0, .int .i64 0, .int .i64 0, .int .i64 0, .int .i64 0, .int .i64 0, .int .i64 0, .int .i64 0, .int .i64 0, .int .i64 0, .bool false, .int .i64 n6, .int .i64 n7] 70) := Lib.hid ((show Blk _ w2.heap.size #[.int .i64 n3, .int .i64 n4, .int .i64 n5, .int .i64 0, .int .i64 0, .int .i64 0, .int .i64 0, .int .i64 0, .int .i64 0, .int .i64 0, .int .i64 0, .int .i64 0, .int .i64 0, .int .i64 0, .int .i64 0, .int .i64 0, .int .i64 0, .int .i64 0, .bool false, .int .i64 n6, .int .i64 n7] 70 from (show Blk _ w2.heap.size #[.int .i64 n3, .int .i64 n4, .int .i64 n5, .int .i64 0, .int .i64 0, .int .i64 0, .int .i64 0, .int .i64 0, .int .i64 0, .int .i64 0, .int .i64 0, .int .i64 0, .int .i64 0, .int .i64 0, .int .i64 0, .int .i64 0, .int .i64 0, .int .i64 0, .bool false, .int .i64 n6, .int .i64 n7] 70 from (B7.out.set 20 (.int .i64 n7)))).ext x8 (by omega))
  have A8 : Hid (Blk w8 w.heap.size #[.int .i64 0, .int .i64 0, .int .i64 0, .int .i64 0, .int .i64 0, .int .i64 0, .int .i64 0, .int .i64 0, .int .i64 0, .int .i64 0, .int .i64 0, .int .i64 0, .int .i64 0, .int .i64 0, .int .i64 0, .int .i64 0, .int .i64 0, .int .i64 0, .bool false, .int .i64 0, .int .i64 0] 70) := Lib.hid ((A7.out.far (p := ⟨w2.heap.size, 20, none⟩) (by show w.heap.size ≠ w2.heap.size; omega) (.int .i64 n7)).ext x8 (by omega))
  have X8 : Hid (Ext None_ w w8) := Lib.hid ((X7.out.setCell (p := ⟨w2.heap.size, 20, none⟩) (.inr (by show w.heap.size ≤ w2.heap.size; omega)) (.int .i64 n7)).trans x8 (fun i hi e => by exfalso; omega))
  have R8 := Lib.hid r8
  clear x8 r8 bc bf A7 B7 R7 X7
  by_cases he : (EndR l s7).fe = 0
  · have he1 : ((EndR l s7).fe != 0) = false := neT he
    have HE := Lib.hid he
    clear he
    have AA := Lib.hid A8.out
    have BB := Lib.hid B8.out
    have XX := Lib.hid X8.out
    go_wp2_with (first | (refine wpList_load_row rfl 70 (.tmp 5) rfl w2.heap.size rfl 70 _ (0, 0) _ BB.out Try.underlying70 rfl rqSize ?_) | (refine wpList_store_blk rfl 70 (.tmp 2) (.tmp 79) rfl w.heap.size #[.int .i64 n3, .int .i64 n4, .int .i64 n5, .int .i64 0, .int .i64 0, .int .i64 0, .int .i64 0, .int .i64 0, .int .i64 0, .int .i64 0, .int .i64 0, .int .i64 0, .int .i64 0, .int .i64 0, .int .i64 0, .int .i64 0, .int .i64 0, .int .i64 0, .bool false, .int .i64 n6, .int .i64 n7] rfl rfl 70 #[.int .i64 0, .int .i64 0, .int .i64 0, .int .i64 0, .int .i64 0, .int .i64 0, .int .i64 0, .int .i64 0, .int .i64 0, .int .i64 0, .int .i64 0, .int .i64 0, .int .i64 0, .int .i64 0, .int .i64 0, .int .i64 0, .int .i64 0, .int .i64 0, .bool false, .int .i64 0, .int .i64 0] AA.out rqSize rfl rfl ?_; intro wz bz xz; have BZ := Lib.hid bz; have XZ := Lib.hid xz; clear bz xz))
    exact bodyPost_ret (v := .tuple #[.agg #[.int .i64 n3, .int .i64 n4, .int .i64 n5, .int .i64 0, .int .i64 0, .int .i64 0, .int .i64 0, .int .i64 0, .int .i64 0, .int .i64 0, .int .i64 0, .int .i64 0, .int .i64 0, .int .i64 0, .int .i64 0, .int .i64 0, .int .i64 0, .int .i64 0, .bool false, .int .i64 n6, .int .i64 n7], .int .i64 0]) (results2_blk rfl _ _ w.heap.size 70 _ _ rfl rfl BZ.out Try.underlying70 rfl rqSize) rfl ⟨ret_dec (q := (⟨n3, n4, ⟨n5, ord0, drv0, n6, n7⟩⟩ : Rq)) (e := 0) (by rw [HDR.out]; exact decE_ok HE.out), XX.out.trans XZ.out (fun i hi e => by exfalso; omega)⟩
  · have he1 : ((EndR l s7).fe != 0) = true := neF he
    have HE := Lib.hid he
    obtain ⟨ef, hef⟩ : ∃ ef, ef = (EndR l s7).fe := ⟨_, rfl⟩
    rw [← hef] at he1 ⊢
    have HEF := Lib.hid hef
    clear he hef
    have AA := Lib.hid A8.out
    have BB := Lib.hid B8.out
    have XX := Lib.hid X8.out
    go_wp2_with ((refine wpList_store_blk rfl 70 (.tmp 2) (.tmp 77) rfl w.heap.size #[.int .i64 0, .int .i64 0, .int .i64 0, .int .i64 0, .int .i64 0, .int .i64 0, .int .i64 0, .int .i64 0, .int .i64 0, .int .i64 0, .int .i64 0, .int .i64 0, .int .i64 0, .int .i64 0, .int .i64 0, .int .i64 0, .int .i64 0, .int .i64 0, .bool false, .int .i64 0, .int .i64 0] rfl rfl 70 #[.int .i64 0, .int .i64 0, .int .i64 0, .int .i64 0, .int .i64 0, .int .i64 0, .int .i64 0, .int .i64 0, .int .i64 0, .int .i64 0, .int .i64 0, .int .i64 0, .int .i64 0, .int .i64 0, .int .i64 0, .int .i64 0, .int .i64 0, .int .i64 0, .bool false, .int .i64 0, .int .i64 0] AA.out rqSize rfl rfl ?_; intro wz bz xz; have BZ := Lib.hid bz; have XZ := Lib.hid xz; clear bz xz))
    exact bodyPost_ret (v := .tuple #[.agg #[.int .i64 0, .int .i64 0, .int .i64 0, .int .i64 0, .int .i64 0, .int .i64 0, .int .i64 0, .int .i64 0, .int .i64 0, .int .i64 0, .int .i64 0, .int .i64 0, .int .i64 0, .int .i64 0, .int .i64 0, .int .i64 0, .int .i64 0, .int .i64 0, .bool false, .int .i64 0, .int .i64 0], .int .i64 ef]) (results2_blk rfl _ _ w.heap.size 70 _ _ rfl rfl BZ.out Try.underlying70 rfl rqSize) rfl ⟨ret_dec (q := rq0) (e := ef) (by rw [HDR.out, HEF.out]; exact decE_bad HE.out), XX.out.trans XZ.out (fun i hi e => by exfalso; omega)⟩

set_option maxRecDepth 100000 in
set_option maxHeartbeats 16000000 in
theorem rdecode6_any (s : ByteArray) (w : World) (hs : s.size ≤ 140737488355328) (hc : (d3 (bytesOf s)).2.fe = 0 ∧ (d3 (bytesOf s)).1 = 6) :
    Calls Try.prog 53 #[.string s] w fun e w' => e = .returned (.tuple #[.agg (decR (bytesOf s)).1.cells, .int .i64 (decR (bytesOf s)).2]) ∧ Ext None_ w w' := by
  obtain ⟨A, c, W1, hconv, hx1, hrow, hsz⟩ := conv_bytes (w.alloc (.cells #[.int .i64 0, .int .i64 0, .int .i64 0, .int .i64 0, .int .i64 0, .int .i64 0, .int .i64 0, .int .i64 0, .int .i64 0, .int .i64 0, .int .i64 0, .int .i64 0, .int .i64 0, .int .i64 0, .int .i64 0, .int .i64 0, .int .i64 0, .int .i64 0, .bool false, .int .i64 0, .int .i64 0] 70)) s
  rw [show (w.alloc (.cells #[.int .i64 0, .int .i64 0, .int .i64 0, .int .i64 0, .int .i64 0, .int .i64 0, .int .i64 0, .int .i64 0, .int .i64 0, .int .i64 0, .int .i64 0, .int .i64 0, .int .i64 0, .int .i64 0, .int .i64 0, .int .i64 0, .int .i64 0, .int .i64 0, .bool false, .int .i64 0, .int .i64 0] 70)).heap.size = w.heap.size + 1 from by simp] at hsz
  have hln := bytesOf_length s
  have hby := Byt_of s
  obtain ⟨l, hl⟩ : ∃ l, l = bytesOf s := ⟨_, rfl⟩
  rw [← hl] at hconv hrow hln hby hc ⊢
  have HC := Lib.hid hc
  have HX1 := Lib.hid hx1
  have HROW := Lib.hid hrow
  have HLN := Lib.hid hln
  have HBY := Lib.hid hby
  have HSZ := Lib.hid hsz
  have hz1 : w.heap.size < W1.heap.size := by omega
  clear hx1 hrow hl hsz hc hln hby
  go_enter Try.func53, Try.ntmps53
  go_wp2_with fail
  refine (rRead_any A c l _ HROW.out HBY.out (by rw [HLN.out]; exact hs)).mono ?_
  rintro e w2 ⟨g, b, rfl, r0, hg, hb, x0_⟩
  have R0 := Lib.hid r0
  have hlt := r0.lt.1
  have hlt2 := r0.lt.2.1
  have hz2 : W1.heap.size ≤ w2.heap.size := x0_.size
  have A0 : Hid (Blk w2 w.heap.size #[.int .i64 0, .int .i64 0, .int .i64 0, .int .i64 0, .int .i64 0, .int .i64 0, .int .i64 0, .int .i64 0, .int .i64 0, .int .i64 0, .int .i64 0, .int .i64 0, .int .i64 0, .int .i64 0, .int .i64 0, .int .i64 0, .int .i64 0, .int .i64 0, .bool false, .int .i64 0, .int .i64 0] 70) := Lib.hid (((Blk.new w #[.int .i64 0, .int .i64 0, .int .i64 0, .int .i64 0, .int .i64 0, .int .i64 0, .int .i64 0, .int .i64 0, .int .i64 0, .int .i64 0, .int .i64 0, .int .i64 0, .int .i64 0, .int .i64 0, .int .i64 0, .int .i64 0, .int .i64 0, .int .i64 0, .bool false, .int .i64 0, .int .i64 0] 70).ext0 HX1.out).ext0 x0_)
  have X0 : Hid (Ext None_ w w2) := Lib.hid ((((x0 _ _).trans0 HX1.out)).trans0 x0_)
  clear x0_ r0 hconv HROW HX1
  have R0' := Lib.hid (R0.out.ext0 (x0 w2 (.cells #[.int .i64 0, .int .i64 0, .int .i64 0, .int .i64 0, .int .i64 0, .int .i64 0, .int .i64 0, .int .i64 0, .int .i64 0, .int .i64 0, .int .i64 0, .int .i64 0, .int .i64 0, .int .i64 0, .int .i64 0, .int .i64 0, .int .i64 0, .int .i64 0, .bool false, .int .i64 0, .int .i64 0] 70)))
  have A0' := Lib.hid (A0.out.alloc (.cells #[.int .i64 0, .int .i64 0, .int .i64 0, .int .i64 0, .int .i64 0, .int .i64 0, .int .i64 0, .int .i64 0, .int .i64 0, .int .i64 0, .int .i64 0, .int .i64 0, .int .i64 0, .int .i64 0, .int .i64 0, .int .i64 0, .int .i64 0, .int .i64 0, .bool false, .int .i64 0, .int .i64 0] 70))
  have X0' := Lib.hid (X0.out.alloc (.cells #[.int .i64 0, .int .i64 0, .int .i64 0, .int .i64 0, .int .i64 0, .int .i64 0, .int .i64 0, .int .i64 0, .int .i64 0, .int .i64 0, .int .i64 0, .int .i64 0, .int .i64 0, .int .i64 0, .int .i64 0, .int .i64 0, .int .i64 0, .int .i64 0, .bool false, .int .i64 0, .int .i64 0] 70))
  have B0 := Lib.hid (Blk.new w2 #[.int .i64 0, .int .i64 0, .int .i64 0, .int .i64 0, .int .i64 0, .int .i64 0, .int .i64 0, .int .i64 0, .int .i64 0, .int .i64 0, .int .i64 0, .int .i64 0, .int .i64 0, .int .i64 0, .int .i64 0, .int .i64 0, .int .i64 0, .int .i64 0, .bool false, .int .i64 0, .int .i64 0] 70)
  clear R0 A0 X0
  go_wp2_with fail
  refine (rNum_ex g b l ⟨0, 0, 0⟩ _ R0'.out).mono ?_
  rintro e w3 ⟨n3, s3, e3, rfl, r3, x3⟩
  have B3 : Hid (Blk w3 w2.heap.size #[.int .i64 0, .int .i64 0, .int .i64 0, .int .i64 0, .int .i64 0, .int .i64 0, .int .i64 0, .int .i64 0, .int .i64 0, .int .i64 0, .int .i64 0, .int .i64 0, .int .i64 0, .int .i64 0, .int .i64 0, .int .i64 0, .int .i64 0, .int .i64 0, .bool false, .int .i64 0, .int .i64 0] 70) := Lib.hid ((show Blk _ w2.heap.size #[.int .i64 0, .int .i64 0, .int .i64 0, .int .i64 0, .int .i64 0, .int .i64 0, .int .i64 0, .int .i64 0, .int .i64 0, .int .i64 0, .int .i64 0, .int .i64 0, .int .i64 0, .int .i64 0, .int .i64 0, .int .i64 0, .int .i64 0, .int .i64 0, .bool false, .int .i64 0, .int .i64 0] 70 from B0.out).ext x3 (by omega))
  have A3 : Hid (Blk w3 w.heap.size #[.int .i64 0, .int .i64 0, .int .i64 0, .int .i64 0, .int .i64 0, .int .i64 0, .int .i64 0, .int .i64 0, .int .i64 0, .int .i64 0, .int .i64 0, .int .i64 0, .int .i64 0, .int .i64 0, .int .i64 0, .int .i64 0, .int .i64 0, .int .i64 0, .bool false, .int .i64 0, .int .i64 0] 70) := Lib.hid (A0'.out.ext x3 (by omega))
  have X3 : Hid (Ext None_ w w3) := Lib.hid (X0'.out.trans x3 (fun i hi e => by exfalso; omega))
  have R3 := Lib.hid r3
  clear x3 r3 A0' B0 R0' X0'
  have E3 := Lib.hid e3
  clear e3
  have bc := B3.out.cell
  have bf := B3.out.frozen
  go_wp2_with fail
  refine (rNum_ex g b l s3 _ (R3.out.ext ((Ext.refl (fun k => k = w2.heap.size) w3).setCell (p := ⟨w2.heap.size, 0, none⟩) (.inl rfl) (.int .i64 n3)) (by omega) (by omega))).mono ?_
  rintro e w4 ⟨n4, s4, e4, rfl, r4, x4⟩
  have B4 : Hid (Blk w4 w2.heap.size #[.int .i64 n3, .int .i64 0, .int .i64 0, .int .i64 0, .int .i64 0, .int .i64 0, .int .i64 0, .int .i64 0, .int .i64 0, .int .i64 0, .int .i64 0, .int .i64 0, .int .i64 0, .int .i64 0, .int .i64 0, .int .i64 0, .int .i64 0, .int .i64 0, .bool false, .int .i64 0, .int .i64 0] 70) := Lib.hid ((show Blk _ w2.heap.size #[.int .i64 n3, .int .i64 0, .int .i64 0, .int .i64 0, .int .i64 0, .int .i64 0, .int .i64 0, .int .i64 0, .int .i64 0, .int .i64 0, .int .i64 0, .int .i64 0, .int .i64 0, .int .i64 0, .int .i64 0, .int .i64 0, .int .i64 0, .int .i64 0, .bool false, .int .i64 0, .int .i64 0] 70 from (show Blk _ w2.heap.size #[.int .i64 n3, .int .i64 0, .int .i64 0, .int .i64 0, .int .i64 0, .int .i64 0, .int .i64 0, .int .i64 0, .int .i64 0, .int .i64 0, .int .i64 0, .int .i64 0, .int .i64 0, .int .i64 0, .int .i64 0, .int .i64 0, .int .i64 0, .int .i64 0, .bool false, .int .i64 0, .int .i64 0] 70 from (B3.out.set 0 (.int .i64 n3)))).ext x4 (by omega))
  have A4 : Hid (Blk w4 w.heap.size #[.int .i64 0, .int .i64 0, .int .i64 0, .int .i64 0, .int .i64 0, .int .i64 0, .int .i64 0, .int .i64 0, .int .i64 0, .int .i64 0, .int .i64 0, .int .i64 0, .int .i64 0, .int .i64 0, .int .i64 0, .int .i64 0, .int .i64 0, .int .i64 0, .bool false, .int .i64 0, .int .i64 0] 70) := Lib.hid ((A3.out.far (p := ⟨w2.heap.size, 0, none⟩) (by show w.heap.size ≠ w2.heap.size; omega) (.int .i64 n3)).ext x4 (by omega))
  have X4 : Hid (Ext None_ w w4) := Lib.hid ((X3.out.setCell (p := ⟨w2.heap.size, 0, none⟩) (.inr (by show w.heap.size ≤ w2.heap.size; omega)) (.int .i64 n3)).trans x4 (fun i hi e => by exfalso; omega))
  have R4 := Lib.hid r4
  clear x4 r4 A3 B3 R3 X3
  have E4 := Lib.hid e4
  clear e4
  clear bc bf
  have bc := B4.out.cell
  have bf := B4.out.frozen
  go_wp2_with fail
  refine (rNum_ex g b l s4 _ (R4.out.ext ((Ext.refl (fun k => k = w2.heap.size) w4).setCell (p := ⟨w2.heap.size, 1, none⟩) (.inl rfl) (.int .i64 n4)) (by omega) (by omega))).mono ?_
  rintro e w5 ⟨n5, s5, e5, rfl, r5, x5⟩
  have B5 : Hid (Blk w5 w2.heap.size #[.int .i64 n3, .int .i64 n4, .int .i64 0, .int .i64 0, .int .i64 0, .int .i64 0, .int .i64 0, .int .i64 0, .int .i64 0, .int .i64 0, .int .i64 0, .int .i64 0, .int .i64 0, .int .i64 0, .int .i64 0, .int .i64 0, .int .i64 0, .int .i64 0, .bool false, .int .i64 0, .int .i64 0] 70) := Lib.hid ((show Blk _ w2.heap.size #[.int .i64 n3, .int .i64 n4, .int .i64 0, .int .i64 0, .int .i64 0, .int .i64 0, .int .i64 0, .int .i64 0, .int .i64 0, .int .i64 0, .int .i64 0, .int .i64 0, .int .i64 0, .int .i64 0, .int .i64 0, .int .i64 0, .int .i64 0, .int .i64 0, .bool false, .int .i64 0, .int .i64 0] 70 from (show Blk _ w2.heap.size #[.int .i64 n3, .int .i64 n4, .int .i64 0, .int .i64 0, .int .i64 0, .int .i64 0, .int .i64 0, .int .i64 0, .int .i64 0, .int .i64 0, .int .i64 0, .int .i64 0, .int .i64 0, .int .i64 0, .int .i64 0, .int .i64 0, .int .i64 0, .int .i64 0, .bool false, .int .i64 0, .int .i64 0] 70 from (B4.out.set 1 (.int .i64 n4)))).ext x5 (by omega))
  have A5 : Hid (Blk w5 w.heap.size #[.int .i64 0, .int .i64 0, .int .i64 0, .int .i64 0, .int .i64 0, .int .i64 0, .int .i64 0, .int .i64 0, .int .i64 0, .int .i64 0, .int .i64 0, .int .i64 0, .int .i64 0, .int .i64 0, .int .i64 0, .int .i64 0, .int .i64 0, .int .i64 0, .bool false, .int .i64 0, .int .i64 0] 70) := Lib.hid ((A4.out.far (p := ⟨w2.heap.size, 1, none⟩) (by show w.heap.size ≠ w2.heap.size; omega) (.int .i64 n4)).ext x5 (by omega))
  have X5 : Hid (Ext None_ w w5) := Lib.hid ((X4.out.setCell (p := ⟨w2.heap.size, 1, none⟩) (.inr (by show w.heap.size ≤ w2.heap.size; omega)) (.int .i64 n4)).trans x5 (fun i hi e => by exfalso; omega))
  have R5 := Lib.hid r5
  clear x5 r5 A4 B4 R4 X4
  have E5 := Lib.hid e5
  clear e5
  clear bc bf
  have bc := B5.out.cell
  have bf := B5.out.frozen
  have D3 : d3 l = (n5, s5) := by unfold d3 d2 d1; rw [E3.out, E4.out, E5.out]
  have D2 : d2 l = (n4, s4) := by unfold d2 d1; rw [E3.out, E4.out]
  have D1 : d1 l = (n3, s3) := E3.out
  have hc := HC.out
  rw [D3] at hc
  have hfe : (s5.fe == 0) = true := eqT hc.1
  have hfe' : (s5.fe != 0) = false := neT hc.1
  have hk : n5 = 6 := hc.2
  have hn : nmd n5 = ⟨false, false, false, true, true⟩ := by rw [hk]; simp [nmd]
  have HFE := Lib.hid hfe
  have k1 : (n5 == 1) = false := by rw [hk]; rfl
  have k3 : (n5 == 3) = false := by rw [hk]; rfl
  have k5 : (n5 == 5) = false := by rw [hk]; rfl
  have k6 : (n5 == 6) = true := by rw [hk]; rfl
  have kl : decide (n5 < 1) = false := by rw [hk]; rfl
  have kg : decide (7 < n5) = false := by rw [hk]; rfl
  have HK : Hid (n5 = 6 ∧ nmd n5 = ⟨false, false, false, true, true⟩ ∧ s5.fe = 0 ∧ d3 l = (n5, s5) ∧ d2 l = (n4, s4) ∧ d1 l = (n3, s3)) := Lib.hid ⟨hk, hn, hc.1, D3, D2, D1⟩
  clear hc hn hfe' D3 D2 D1 hk
  obtain ⟨_, _, ⟨g0_, g1_, g2_, g3_⟩, _⟩ := R5.out.cells
  have hne_ : ¬ g = w2.heap.size := (by omega)
  have hne2_ : ¬ w2.heap.size = g := (by omega)
  go_wp2_with fail
  refine (rNum_ex g b l s5 _ (R5.out.ext ((Ext.refl (fun k => k = w2.heap.size) w5).setCell (p := ⟨w2.heap.size, 2, none⟩) (.inl rfl) (.int .i64 n5)) (by omega) (by omega))).mono ?_
  rintro e w6 ⟨n6, s6, e6, rfl, r6, x6⟩
  have B6 : Hid (Blk w6 w2.heap.size #[.int .i64 n3, .int .i64 n4, .int .i64 n5, .int .i64 0, .int .i64 0, .int .i64 0, .int .i64 0, .int .i64 0, .int .i64 0, .int .i64 0, .int .i64 0, .int .i64 0, .int .i64 0, .int .i64 0, .int .i64 0, .int .i64 0, .int .i64 0, .int .i64 0, .bool false, .int .i64 0, .int .i64 0] 70) := Lib.hid ((show Blk _ w2.heap.size #[.int .i64 n3, .int .i64 n4, .int .i64 n5, .int .i64 0, .int .i64 0, .int .i64 0, .int .i64 0, .int .i64 0, .int .i64 0, .int .i64 0, .int .i64 0, .int .i64 0, .int .i64 0, .int .i64 0, .int .i64 0, .int .i64 0, .int .i64 0, .int .i64 0, .bool false, .int .i64 0, .int .i64 0] 70 from (show Blk _ w2.heap.size #[.int .i64 n3, .int .i64 n4, .int .i64 n5, .int .i64 0, .int .i64 0, .int .i64 0, .int .i64 0, .int .i64 0, .int .i64 0, .int .i64 0, .int .i64 0, .int .i64 0, .int .i64 0, .int .i64 0, .int .i64 0, .int .i64 0, .int .i64 0, .int .i64 0, .bool false, .int .i64 0, .int .i64 0] 70 from (B5.out.set 2 (.int .i64 n5)))).ext x6 (by omega))
  have A6 : Hid (Blk w6 w.heap.size #[.int .i64 0, .int .i64 0, .int .i64 0, .int .i64 0, .int .i64 0, .int .i64 0, .int .i64 0, .int .i64 0, .int .i64 0, .int .i64 0, .int .i64 0, .int .i64 0, .int .i64 0, .int .i64 0, .int .i64 0, .int .i64 0, .int .i64 0, .int .i64 0, .bool false, .int .i64 0, .int .i64 0] 70) := Lib.hid ((A5.out.far (p := ⟨w2.heap.size, 2, none⟩) (by show w.heap.size ≠ w2.heap.size; omega) (.int .i64 n5)).ext x6 (by omega))
  have X6 : Hid (Ext None_ w w6) := Lib.hid ((X5.out.setCell (p := ⟨w2.heap.size, 2, none⟩) (.inr (by show w.heap.size ≤ w2.heap.size; omega)) (.int .i64 n5)).trans x6 (fun i hi e => by exfalso; omega))
  have R6 := Lib.hid r6
  clear x6 r6 A5 B5 R5 X5
  have E6 := Lib.hid e6
  clear e6
  clear bc bf
  have bc := B6.out.cell
  have bf := B6.out.frozen
  clear g0_ g1_ g2_ g3_
  have HDR : Hid (decR l = decE l (⟨n3, n4, ⟨n5, ord0, drv0, 0, n6⟩⟩ : Rq) s6) := Lib.hid (by obtain ⟨hk, hn, h0, D3, D2, D1⟩ := HK.out; have po4 : o4 l n5 s5 = (ord0, s5) := (by unfold o4; rw [hn]; first | done | rfl); have po5 : o5 l n5 s5 = (drv0, s5) := (by unfold o5; rw [hn]; first | done | rfl); have po6 : o6 l n5 s5 = (0, s5) := (by unfold o6; rw [hn]; first | done | rfl); have po7 : o7 l n5 s5 = (n6, s6) := (by unfold o7; rw [hn]; first | done | exact E6.out); unfold decR; rw [D3, D2, D1, if_neg (by rw [hn]; exact fun a => by cases a.2)]; simp only [decS, po4, po5, po6, po7])
  go_wp2_with fail
  refine (rEnd_any g b l s6 _ (R6.out.ext ((Ext.refl (fun k => k = w2.heap.size) w6).setCell (p := ⟨w2.heap.size, 20, none⟩) (.inl rfl) (.int .i64 n6)) (by omega) (by omega))).mono ?_
  rintro e w7 ⟨rfl, r7, x7⟩
  have B7 : Hid (Blk w7 w2.heap.size #[.int .i64 n3, .int .i64 n4, .int .i64 n5, .int .i64 0, .int .i64 0, .int .i64 0, .int .i64 0, .int .i64 0, .int .i64 0, .int .i64 0, .int .i64 0, .int .i64 0, .int .i64 0, .int .i64 0, .int .i64 0, .int .i64 0, .int .i64 0, .int .i64 0, .bool false, .int .i64 0, .int .i64 n6] 70) := Lib.hid ((show Blk _ w2.heap.size #[.int .i64 n3, .int .i64 n4, .int .i64 n5, .int .i64 0, .int .i64 0, .int .i64 0, .int .i64 0, .int .i64 0, .int .i64 0, .int .i64 0, .int .i64 0, .int .i64 0, .int .i64 0, .int .i64 0, .int .i64 0, .int .i64 0, .int .i64 0, .int .i64 0, .bool false, .int .i64 0, .int .i64 n6] 70 from (show Blk _ w2.heap.size #[.int .i64 n3, .int .i64 n4, .int .i64 n5, .int .i64 0, .int .i64 0, .int .i64 0, .int .i64 0, .int .i64 0, .int .i64 0, .int .i64 0, .int .i64 0, .int .i64 0, .int .i64 0, .int .i64 0, .int .i64 0, .int .i64 0, .int .i64 0, .int .i64 0, .bool false, .int .i64 0, .int .i64 n6] 70 from (B6.out.set 20 (.int .i64 n6)))).ext x7 (by omega))
  have A7 : Hid (Blk w7 w.heap.size #[.int .i64 0, .int .i64 0, .int .i64 0, .int .i64 0, .int .i64 0, .int .i64 0, .int .i64 0, .int .i64 0, .int .i64 0, .int .i64 0, .int .i64 0, .int .i64 0, .int .i64 0, .int .i64 0, .int .i64 0, .int .i64 0, .int .i64 0, .int .i64 0, .bool false, .int .i64 0, .int .i64 0] 70) := Lib.hid ((A6.out.far (p := ⟨w2.heap.size, 20, none⟩) (by show w.heap.size ≠ w2.heap.size; omega) (.int .i64 n6)).ext x7 (by omega))
  have X7 : Hid (Ext None_ w w7) := Lib.hid ((X6.out.setCell (p := ⟨w2.heap.size, 20, none⟩) (.inr (by show w.heap.size ≤ w2.heap.size; omega)) (.int .i64 n6)).trans x7 (fun i hi e => by exfalso; omega))
  have R7 := Lib.hid r7
  clear x7 r7 bc bf A6 B6 R6 X6
  by_cases he : (EndR l s6).fe = 0
  · have he1 : ((EndR l s6).fe != 0) = false := neT he
    have HE := Lib.hid he
    clear he
    have AA := Lib.hid A7.out
    have BB := Lib.hid B7.out
    have XX := Lib.hid X7.out
    go_wp2_with (first | (refine wpList_load_row rfl 70 (.tmp 5) rfl w2.heap.size rfl 70 _ (0, 0) _ BB.out Try.underlying70 rfl rqSize ?_) | (refine wpList_store_blk rfl 70 (.tmp 2) (.tmp 79) rfl w.heap.size #[.int .i64 n3, .int .i64 n4, .int .i64 n5, .int .i64 0, .int .i64 0, .int .i64 0, .int .i64 0, .int .i64 0, .int .i64 0, .int .i64 0, .int .i64 0, .int .i64 0, .int .i64 0, .int .i64 0, .int .i64 0, .int .i64 0, .int .i64 0, .int .i64 0, .bool false, .int .i64 0, .int .i64 n6] rfl rfl 70 #[.int .i64 0, .int .i64 0, .int .i64 0, .int .i64 0, .int .i64 0, .int .i64 0, .int .i64 0, .int .i64 0, .int .i64 0, .int .i64 0, .int .i64 0, .int .i64 0, .int .i64 0, .int .i64 0, .int .i64 0, .int .i64 0, .int .i64 0, .int .i64 0, .bool false, .int .i64 0, .int .i64 0] AA.out rqSize rfl rfl ?_; intro wz bz xz; have BZ := Lib.hid bz; have XZ := Lib.hid xz; clear bz xz))
    exact bodyPost_ret (v := .tuple #[.agg #[.int .i64 n3, .int .i64 n4, .int .i64 n5, .int .i64 0, .int .i64 0, .int .i64 0, .int .i64 0, .int .i64 0, .int .i64 0, .int .i64 0, .int .i64 0, .int .i64 0, .int .i64 0, .int .i64 0, .int .i64 0, .int .i64 0, .int .i64 0, .int .i64 0, .bool false, .int .i64 0, .int .i64 n6], .int .i64 0]) (results2_blk rfl _ _ w.heap.size 70 _ _ rfl rfl BZ.out Try.underlying70 rfl rqSize) rfl ⟨ret_dec (q := (⟨n3, n4, ⟨n5, ord0, drv0, 0, n6⟩⟩ : Rq)) (e := 0) (by rw [HDR.out]; exact decE_ok HE.out), XX.out.trans XZ.out (fun i hi e => by exfalso; omega)⟩
  · have he1 : ((EndR l s6).fe != 0) = true := neF he
    have HE := Lib.hid he
    obtain ⟨ef, hef⟩ : ∃ ef, ef = (EndR l s6).fe := ⟨_, rfl⟩
    rw [← hef] at he1 ⊢
    have HEF := Lib.hid hef
    clear he hef
    have AA := Lib.hid A7.out
    have BB := Lib.hid B7.out
    have XX := Lib.hid X7.out
    go_wp2_with ((refine wpList_store_blk rfl 70 (.tmp 2) (.tmp 77) rfl w.heap.size #[.int .i64 0, .int .i64 0, .int .i64 0, .int .i64 0, .int .i64 0, .int .i64 0, .int .i64 0, .int .i64 0, .int .i64 0, .int .i64 0, .int .i64 0, .int .i64 0, .int .i64 0, .int .i64 0, .int .i64 0, .int .i64 0, .int .i64 0, .int .i64 0, .bool false, .int .i64 0, .int .i64 0] rfl rfl 70 #[.int .i64 0, .int .i64 0, .int .i64 0, .int .i64 0, .int .i64 0, .int .i64 0, .int .i64 0, .int .i64 0, .int .i64 0, .int .i64 0, .int .i64 0, .int .i64 0, .int .i64 0, .int .i64 0, .int .i64 0, .int .i64 0, .int .i64 0, .int .i64 0, .bool false, .int .i64 0, .int .i64 0] AA.out rqSize rfl rfl ?_; intro wz bz xz; have BZ := Lib.hid bz; have XZ := Lib.hid xz; clear bz xz))
    exact bodyPost_ret (v := .tuple #[.agg #[.int .i64 0, .int .i64 0, .int .i64 0, .int .i64 0, .int .i64 0, .int .i64 0, .int .i64 0, .int .i64 0, .int .i64 0, .int .i64 0, .int .i64 0, .int .i64 0, .int .i64 0, .int .i64 0, .int .i64 0, .int .i64 0, .int .i64 0, .int .i64 0, .bool false, .int .i64 0, .int .i64 0], .int .i64 ef]) (results2_blk rfl _ _ w.heap.size 70 _ _ rfl rfl BZ.out Try.underlying70 rfl rqSize) rfl ⟨ret_dec (q := rq0) (e := ef) (by rw [HDR.out, HEF.out]; exact decE_bad HE.out), XX.out.trans XZ.out (fun i hi e => by exfalso; omega)⟩

theorem rdecode_any (s : ByteArray) (w : World) (hs : s.size ≤ 140737488355328) :
    Calls Try.prog 53 #[.string s] w fun e w' => e = .returned (.tuple #[.agg (decR (bytesOf s)).1.cells, .int .i64 (decR (bytesOf s)).2]) ∧ Ext None_ w w' := by
  by_cases h0 : (d3 (bytesOf s)).2.fe = 0
  · cases h1 : (nmd (d3 (bytesOf s)).1).ok with
    | false => exact rdecodeB_any s w hs ⟨h0, h1⟩
    | true =>
      by_cases k1 : (d3 (bytesOf s)).1 = 1
      · exact rdecode1_any s w hs ⟨h0, k1⟩
      by_cases k2 : (d3 (bytesOf s)).1 = 2
      · exact rdecode2_any s w hs ⟨h0, k2⟩
      by_cases k4 : (d3 (bytesOf s)).1 = 4
      · exact rdecode4_any s w hs ⟨h0, k4⟩
      by_cases k7 : (d3 (bytesOf s)).1 = 7
      · exact rdecode7_any s w hs ⟨h0, k7⟩
      by_cases k3 : (d3 (bytesOf s)).1 = 3
      · exact rdecode3_any s w hs ⟨h0, k3⟩
      by_cases k5 : (d3 (bytesOf s)).1 = 5
      · exact rdecode5_any s w hs ⟨h0, k5⟩
      by_cases k6 : (d3 (bytesOf s)).1 = 6
      · exact rdecode6_any s w hs ⟨h0, k6⟩
      simp [nmd, k1, k2, k3, k4, k5, k6, k7] at h1
  · exact rdecodeA_any s w hs h0

end Go.Proofs.Ytmobdofkiddfhaa
