/- Packages command and drayref15, walked: what is got from a reader. -/
import Derived.Test.YtmobdofkiddfhaaCmdGa
set_option linter.unusedVariables false
set_option linter.unusedSimpArgs false
namespace Go.Proofs.Ytmobdofkiddfhaa
open Go.RowKit B
set_option maxRecDepth 100000 in
set_option maxHeartbeats 4000000 in
theorem rgetDrv_any (g b : Nat) (l : List Int) (s : RS) (w : World) (h : Rf w g b l s) :
    Calls Try.prog 57 #[.pointer (some ⟨g, 0, none⟩)] w fun e w' => ∃ x s', drvR l s = (x, s') ∧ e = .returned (.agg #[.int .i64 x.id, .int .i64 x.room, .int .i64 x.home, .int .i64 x.f, .int .i64 x.t, .bool x.ret]) ∧ Rf w' g b l s' ∧ Ext (fun k => k = g) w w' := by
  have HL := Lib.hid h.lt
  have hlt := h.lt.1
  have hlt2 := h.lt.2.1
  have R0 := Lib.hid ((h.ext0 (x0 w (.cells #[.int .i64 0, .int .i64 0, .int .i64 0, .int .i64 0, .int .i64 0, .bool false] 66))).ext0 (x0 _ (.cells #[.int .i64 0, .int .i64 0, .int .i64 0, .int .i64 0, .int .i64 0, .bool false] 66)))
  have X0 := Lib.hid (((Ext.refl (fun k => k = g) w).alloc (.cells #[.int .i64 0, .int .i64 0, .int .i64 0, .int .i64 0, .int .i64 0, .bool false] 66)).alloc (.cells #[.int .i64 0, .int .i64 0, .int .i64 0, .int .i64 0, .int .i64 0, .bool false] 66))
  have A0 := Lib.hid ((Blk.new w #[.int .i64 0, .int .i64 0, .int .i64 0, .int .i64 0, .int .i64 0, .bool false] 66).alloc (.cells #[.int .i64 0, .int .i64 0, .int .i64 0, .int .i64 0, .int .i64 0, .bool false] 66))
  have B0 : Hid (Blk ((w.alloc (.cells #[.int .i64 0, .int .i64 0, .int .i64 0, .int .i64 0, .int .i64 0, .bool false] 66)).alloc (.cells #[.int .i64 0, .int .i64 0, .int .i64 0, .int .i64 0, .int .i64 0, .bool false] 66)) (w.heap.size + 1) #[.int .i64 0, .int .i64 0, .int .i64 0, .int .i64 0, .int .i64 0, .bool false] 66) := Lib.hid (by have := Blk.new (w.alloc (.cells #[.int .i64 0, .int .i64 0, .int .i64 0, .int .i64 0, .int .i64 0, .bool false] 66)) #[.int .i64 0, .int .i64 0, .int .i64 0, .int .i64 0, .int .i64 0, .bool false] 66; simpa using this)
  clear h
  go_enter Try.func57, Try.ntmps57
  go_wp2_with fail
  refine (rNum_ex g b l s _ R0.out).mono ?_
  rintro e w1 ⟨n1, s1, e1, rfl, r1, x1⟩
  have B1 : Hid (Blk w1 (w.heap.size + 1) #[.int .i64 0, .int .i64 0, .int .i64 0, .int .i64 0, .int .i64 0, .bool false] 66) := Lib.hid ((show Blk _ (w.heap.size + 1) #[.int .i64 0, .int .i64 0, .int .i64 0, .int .i64 0, .int .i64 0, .bool false] 66 from B0.out).ext x1 (by omega))
  have A1 : Hid (Blk w1 w.heap.size #[.int .i64 0, .int .i64 0, .int .i64 0, .int .i64 0, .int .i64 0, .bool false] 66) := Lib.hid (A0.out.ext x1 (by omega))
  have X1 : Hid (Ext (fun k => k = g) w w1) := Lib.hid (X0.out.trans x1 (fun _ _ a => a))
  have R1 := Lib.hid r1
  have E1 := Lib.hid e1
  clear x1 r1 e1 B0 A0 X0 R0
  have bc := B1.out.cell
  have bf := B1.out.frozen
  go_wp2_with fail
  refine (rNum_ex g b l s1 _ (R1.out.ext ((Ext.refl (fun k => k = w.heap.size + 1) w1).setCell (p := ⟨w.heap.size + 1, 0, none⟩) (.inl rfl) (.int .i64 n1)) (by omega) (by omega))).mono ?_
  rintro e w2 ⟨n2, s2, e2, rfl, r2, x2⟩
  have B2 : Hid (Blk w2 (w.heap.size + 1) #[.int .i64 n1, .int .i64 0, .int .i64 0, .int .i64 0, .int .i64 0, .bool false] 66) := Lib.hid ((show Blk _ (w.heap.size + 1) #[.int .i64 n1, .int .i64 0, .int .i64 0, .int .i64 0, .int .i64 0, .bool false] 66 from (show Blk _ (w.heap.size + 1) #[.int .i64 n1, .int .i64 0, .int .i64 0, .int .i64 0, .int .i64 0, .bool false] 66 from (B1.out.set 0 (.int .i64 n1)))).ext x2 (by omega))
  have A2 : Hid (Blk w2 w.heap.size #[.int .i64 0, .int .i64 0, .int .i64 0, .int .i64 0, .int .i64 0, .bool false] 66) := Lib.hid ((A1.out.far (p := ⟨w.heap.size + 1, 0, none⟩) (by simp) (.int .i64 n1)).ext x2 (by omega))
  have X2 : Hid (Ext (fun k => k = g) w w2) := Lib.hid ((X1.out.setCell (p := ⟨w.heap.size + 1, 0, none⟩) (.inr (Nat.le_succ _)) (.int .i64 n1)).trans x2 (fun _ _ a => a))
  have R2 := Lib.hid r2
  have E2 := Lib.hid e2
  clear x2 r2 e2 B1 A1 X1 R1 bc bf
  have bc := B2.out.cell
  have bf := B2.out.frozen
  go_wp2_with fail
  refine (rNum_ex g b l s2 _ (R2.out.ext ((Ext.refl (fun k => k = w.heap.size + 1) w2).setCell (p := ⟨w.heap.size + 1, 1, none⟩) (.inl rfl) (.int .i64 n2)) (by omega) (by omega))).mono ?_
  rintro e w3 ⟨n3, s3, e3, rfl, r3, x3⟩
  have B3 : Hid (Blk w3 (w.heap.size + 1) #[.int .i64 n1, .int .i64 n2, .int .i64 0, .int .i64 0, .int .i64 0, .bool false] 66) := Lib.hid ((show Blk _ (w.heap.size + 1) #[.int .i64 n1, .int .i64 n2, .int .i64 0, .int .i64 0, .int .i64 0, .bool false] 66 from (show Blk _ (w.heap.size + 1) #[.int .i64 n1, .int .i64 n2, .int .i64 0, .int .i64 0, .int .i64 0, .bool false] 66 from (B2.out.set 1 (.int .i64 n2)))).ext x3 (by omega))
  have A3 : Hid (Blk w3 w.heap.size #[.int .i64 0, .int .i64 0, .int .i64 0, .int .i64 0, .int .i64 0, .bool false] 66) := Lib.hid ((A2.out.far (p := ⟨w.heap.size + 1, 1, none⟩) (by simp) (.int .i64 n2)).ext x3 (by omega))
  have X3 : Hid (Ext (fun k => k = g) w w3) := Lib.hid ((X2.out.setCell (p := ⟨w.heap.size + 1, 1, none⟩) (.inr (Nat.le_succ _)) (.int .i64 n2)).trans x3 (fun _ _ a => a))
  have R3 := Lib.hid r3
  have E3 := Lib.hid e3
  clear x3 r3 e3 B2 A2 X2 R2 bc bf
  have bc := B3.out.cell
  have bf := B3.out.frozen
  go_wp2_with fail
  refine (rNum_ex g b l s3 _ (R3.out.ext ((Ext.refl (fun k => k = w.heap.size + 1) w3).setCell (p := ⟨w.heap.size + 1, 2, none⟩) (.inl rfl) (.int .i64 n3)) (by omega) (by omega))).mono ?_
  rintro e w4 ⟨n4, s4, e4, rfl, r4, x4⟩
  have B4 : Hid (Blk w4 (w.heap.size + 1) #[.int .i64 n1, .int .i64 n2, .int .i64 n3, .int .i64 0, .int .i64 0, .bool false] 66) := Lib.hid ((show Blk _ (w.heap.size + 1) #[.int .i64 n1, .int .i64 n2, .int .i64 n3, .int .i64 0, .int .i64 0, .bool false] 66 from (show Blk _ (w.heap.size + 1) #[.int .i64 n1, .int .i64 n2, .int .i64 n3, .int .i64 0, .int .i64 0, .bool false] 66 from (B3.out.set 2 (.int .i64 n3)))).ext x4 (by omega))
  have A4 : Hid (Blk w4 w.heap.size #[.int .i64 0, .int .i64 0, .int .i64 0, .int .i64 0, .int .i64 0, .bool false] 66) := Lib.hid ((A3.out.far (p := ⟨w.heap.size + 1, 2, none⟩) (by simp) (.int .i64 n3)).ext x4 (by omega))
  have X4 : Hid (Ext (fun k => k = g) w w4) := Lib.hid ((X3.out.setCell (p := ⟨w.heap.size + 1, 2, none⟩) (.inr (Nat.le_succ _)) (.int .i64 n3)).trans x4 (fun _ _ a => a))
  have R4 := Lib.hid r4
  have E4 := Lib.hid e4
  clear x4 r4 e4 B3 A3 X3 R3 bc bf
  have bc := B4.out.cell
  have bf := B4.out.frozen
  go_wp2_with fail
  refine (rNum_ex g b l s4 _ (R4.out.ext ((Ext.refl (fun k => k = w.heap.size + 1) w4).setCell (p := ⟨w.heap.size + 1, 3, none⟩) (.inl rfl) (.int .i64 n4)) (by omega) (by omega))).mono ?_
  rintro e w5 ⟨n5, s5, e5, rfl, r5, x5⟩
  have B5 : Hid (Blk w5 (w.heap.size + 1) #[.int .i64 n1, .int .i64 n2, .int .i64 n3, .int .i64 n4, .int .i64 0, .bool false] 66) := Lib.hid ((show Blk _ (w.heap.size + 1) #[.int .i64 n1, .int .i64 n2, .int .i64 n3, .int .i64 n4, .int .i64 0, .bool false] 66 from (show Blk _ (w.heap.size + 1) #[.int .i64 n1, .int .i64 n2, .int .i64 n3, .int .i64 n4, .int .i64 0, .bool false] 66 from (B4.out.set 3 (.int .i64 n4)))).ext x5 (by omega))
  have A5 : Hid (Blk w5 w.heap.size #[.int .i64 0, .int .i64 0, .int .i64 0, .int .i64 0, .int .i64 0, .bool false] 66) := Lib.hid ((A4.out.far (p := ⟨w.heap.size + 1, 3, none⟩) (by simp) (.int .i64 n4)).ext x5 (by omega))
  have X5 : Hid (Ext (fun k => k = g) w w5) := Lib.hid ((X4.out.setCell (p := ⟨w.heap.size + 1, 3, none⟩) (.inr (Nat.le_succ _)) (.int .i64 n4)).trans x5 (fun _ _ a => a))
  have R5 := Lib.hid r5
  have E5 := Lib.hid e5
  clear x5 r5 e5 B4 A4 X4 R4 bc bf
  have bc := B5.out.cell
  have bf := B5.out.frozen
  go_wp2_with fail
  refine (rFlag_ex g b l s5 _ (R5.out.ext ((Ext.refl (fun k => k = w.heap.size + 1) w5).setCell (p := ⟨w.heap.size + 1, 4, none⟩) (.inl rfl) (.int .i64 n5)) (by omega) (by omega))).mono ?_
  rintro e w6 ⟨n6, s6, e6, rfl, r6, x6⟩
  have B6 : Hid (Blk w6 (w.heap.size + 1) #[.int .i64 n1, .int .i64 n2, .int .i64 n3, .int .i64 n4, .int .i64 n5, .bool false] 66) := Lib.hid ((show Blk _ (w.heap.size + 1) #[.int .i64 n1, .int .i64 n2, .int .i64 n3, .int .i64 n4, .int .i64 n5, .bool false] 66 from (show Blk _ (w.heap.size + 1) #[.int .i64 n1, .int .i64 n2, .int .i64 n3, .int .i64 n4, .int .i64 n5, .bool false] 66 from (B5.out.set 4 (.int .i64 n5)))).ext x6 (by omega))
  have A6 : Hid (Blk w6 w.heap.size #[.int .i64 0, .int .i64 0, .int .i64 0, .int .i64 0, .int .i64 0, .bool false] 66) := Lib.hid ((A5.out.far (p := ⟨w.heap.size + 1, 4, none⟩) (by simp) (.int .i64 n5)).ext x6 (by omega))
  have X6 : Hid (Ext (fun k => k = g) w w6) := Lib.hid ((X5.out.setCell (p := ⟨w.heap.size + 1, 4, none⟩) (.inr (Nat.le_succ _)) (.int .i64 n5)).trans x6 (fun _ _ a => a))
  have R6 := Lib.hid r6
  have E6 := Lib.hid e6
  clear x6 r6 e6 B5 A5 X5 R5 bc bf
  have bc := B6.out.cell
  have bf := B6.out.frozen
  obtain ⟨_, _, ⟨g0_, g1_, g2_, g3_⟩, _⟩ := R6.out.cells
  have hne_ : ¬ g = w.heap.size + 1 := (by omega)
  have hne2_ : ¬ w.heap.size + 1 = g := (by omega)
  by_cases hf : s6.fe = 0
  · have hfb : (s6.fe != 0) = false := neT hf
    have ac := A6.out.cell
    have af := A6.out.frozen
    go_wp2_with fail
    have zc := (show Blk _ w.heap.size #[.int .i64 n1, .int .i64 n2, .int .i64 n3, .int .i64 n4, .int .i64 n5, .bool n6] 66 from (show Blk _ w.heap.size #[.int .i64 n1, .int .i64 n2, .int .i64 n3, .int .i64 n4, .int .i64 n5, .bool n6] 66 from ((show Blk _ w.heap.size #[.int .i64 n1, .int .i64 n2, .int .i64 n3, .int .i64 n4, .int .i64 n5, .bool false] 66 from ((show Blk _ w.heap.size #[.int .i64 n1, .int .i64 n2, .int .i64 n3, .int .i64 n4, .int .i64 0, .bool false] 66 from ((show Blk _ w.heap.size #[.int .i64 n1, .int .i64 n2, .int .i64 n3, .int .i64 0, .int .i64 0, .bool false] 66 from ((show Blk _ w.heap.size #[.int .i64 n1, .int .i64 n2, .int .i64 0, .int .i64 0, .int .i64 0, .bool false] 66 from ((show Blk _ w.heap.size #[.int .i64 n1, .int .i64 0, .int .i64 0, .int .i64 0, .int .i64 0, .bool false] 66 from ((A6.out.far (p := ⟨w.heap.size + 1, 5, none⟩) (by simp) (.bool n6)).set 0 (.int .i64 n1))).set 1 (.int .i64 n2))).set 2 (.int .i64 n3))).set 3 (.int .i64 n4))).set 4 (.int .i64 n5))).set 5 (.bool n6)))).cell
    exact bodyPost_ret (v := .agg #[.int .i64 n1, .int .i64 n2, .int .i64 n3, .int .i64 n4, .int .i64 n5, .bool n6]) (by simp [results, Try.results57, go_sem, zc]) rfl ⟨⟨n1, n2, n3, n4, n5, n6⟩, s6, (by unfold drvR; simp only [drvG, E1.out, E2.out, E3.out, E4.out, E5.out, E6.out]; rw [if_pos hf]), rfl, R6.out.ext ((((((((Ext.refl (fun k => k = w.heap.size ∨ k = w.heap.size + 1) w6).setCell (p := ⟨w.heap.size + 1, 5, none⟩) (.inl (.inr rfl)) (.bool n6)).setCell (p := ⟨w.heap.size, 0, none⟩) (.inl (.inl rfl)) (.int .i64 n1)).setCell (p := ⟨w.heap.size, 1, none⟩) (.inl (.inl rfl)) (.int .i64 n2)).setCell (p := ⟨w.heap.size, 2, none⟩) (.inl (.inl rfl)) (.int .i64 n3)).setCell (p := ⟨w.heap.size, 3, none⟩) (.inl (.inl rfl)) (.int .i64 n4)).setCell (p := ⟨w.heap.size, 4, none⟩) (.inl (.inl rfl)) (.int .i64 n5)).setCell (p := ⟨w.heap.size, 5, none⟩) (.inl (.inl rfl)) (.bool n6)) (by omega) (by omega), (((((((X6.out.setCell (p := ⟨w.heap.size + 1, 5, none⟩) (.inr (Nat.le_succ _)) (.bool n6)).setCell (p := ⟨w.heap.size, 0, none⟩) (.inr (Nat.le_refl _)) (.int .i64 n1)).setCell (p := ⟨w.heap.size, 1, none⟩) (.inr (Nat.le_refl _)) (.int .i64 n2)).setCell (p := ⟨w.heap.size, 2, none⟩) (.inr (Nat.le_refl _)) (.int .i64 n3)).setCell (p := ⟨w.heap.size, 3, none⟩) (.inr (Nat.le_refl _)) (.int .i64 n4)).setCell (p := ⟨w.heap.size, 4, none⟩) (.inr (Nat.le_refl _)) (.int .i64 n5)).setCell (p := ⟨w.heap.size, 5, none⟩) (.inr (Nat.le_refl _)) (.bool n6))⟩
  · have hfb : (s6.fe != 0) = true := neF hf
    have ac := A6.out.cell
    have af := A6.out.frozen
    go_wp2_with fail
    have zc := (show Blk _ w.heap.size #[.int .i64 0, .int .i64 0, .int .i64 0, .int .i64 0, .int .i64 0, .bool false] 66 from (show Blk _ w.heap.size #[.int .i64 0, .int .i64 0, .int .i64 0, .int .i64 0, .int .i64 0, .bool false] 66 from ((show Blk _ w.heap.size #[.int .i64 0, .int .i64 0, .int .i64 0, .int .i64 0, .int .i64 0, .bool false] 66 from ((show Blk _ w.heap.size #[.int .i64 0, .int .i64 0, .int .i64 0, .int .i64 0, .int .i64 0, .bool false] 66 from ((show Blk _ w.heap.size #[.int .i64 0, .int .i64 0, .int .i64 0, .int .i64 0, .int .i64 0, .bool false] 66 from ((show Blk _ w.heap.size #[.int .i64 0, .int .i64 0, .int .i64 0, .int .i64 0, .int .i64 0, .bool false] 66 from ((show Blk _ w.heap.size #[.int .i64 0, .int .i64 0, .int .i64 0, .int .i64 0, .int .i64 0, .bool false] 66 from ((A6.out.far (p := ⟨w.heap.size + 1, 5, none⟩) (by simp) (.bool n6)).set 0 (.int .i64 0))).set 1 (.int .i64 0))).set 2 (.int .i64 0))).set 3 (.int .i64 0))).set 4 (.int .i64 0))).set 5 (.bool false)))).cell
    exact bodyPost_ret (v := .agg #[.int .i64 0, .int .i64 0, .int .i64 0, .int .i64 0, .int .i64 0, .bool false]) (by simp [results, Try.results57, go_sem, zc]) rfl ⟨drv0, s6, (by unfold drvR; simp only [drvG, E1.out, E2.out, E3.out, E4.out, E5.out, E6.out]; rw [if_neg hf]), rfl, R6.out.ext ((((((((Ext.refl (fun k => k = w.heap.size ∨ k = w.heap.size + 1) w6).setCell (p := ⟨w.heap.size + 1, 5, none⟩) (.inl (.inr rfl)) (.bool n6)).setCell (p := ⟨w.heap.size, 0, none⟩) (.inl (.inl rfl)) (.int .i64 0)).setCell (p := ⟨w.heap.size, 1, none⟩) (.inl (.inl rfl)) (.int .i64 0)).setCell (p := ⟨w.heap.size, 2, none⟩) (.inl (.inl rfl)) (.int .i64 0)).setCell (p := ⟨w.heap.size, 3, none⟩) (.inl (.inl rfl)) (.int .i64 0)).setCell (p := ⟨w.heap.size, 4, none⟩) (.inl (.inl rfl)) (.int .i64 0)).setCell (p := ⟨w.heap.size, 5, none⟩) (.inl (.inl rfl)) (.bool false)) (by omega) (by omega), (((((((X6.out.setCell (p := ⟨w.heap.size + 1, 5, none⟩) (.inr (Nat.le_succ _)) (.bool n6)).setCell (p := ⟨w.heap.size, 0, none⟩) (.inr (Nat.le_refl _)) (.int .i64 0)).setCell (p := ⟨w.heap.size, 1, none⟩) (.inr (Nat.le_refl _)) (.int .i64 0)).setCell (p := ⟨w.heap.size, 2, none⟩) (.inr (Nat.le_refl _)) (.int .i64 0)).setCell (p := ⟨w.heap.size, 3, none⟩) (.inr (Nat.le_refl _)) (.int .i64 0)).setCell (p := ⟨w.heap.size, 4, none⟩) (.inr (Nat.le_refl _)) (.int .i64 0)).setCell (p := ⟨w.heap.size, 5, none⟩) (.inr (Nat.le_refl _)) (.bool false))⟩
end Go.Proofs.Ytmobdofkiddfhaa
