/- Packages command and drayref15, walked: what is got from a reader. -/
import Derived.Test.YtmobdofkiddfhaaCmdW
set_option linter.unusedVariables false
set_option linter.unusedSimpArgs false
namespace Go.Proofs.Ytmobdofkiddfhaa
open Go.RowKit B
def siteR (l : List Int) (s : RS) : Site × RS := (⟨(NumR l s).1, (NumR l (NumR l s).2).1, (NumR l (NumR l (NumR l s).2).2).1, (NumR l (NumR l (NumR l (NumR l s).2).2).2).1⟩, (NumR l (NumR l (NumR l (NumR l s).2).2).2).2)
def site0 : Site := ⟨0, 0, 0, 0⟩
def ord0 : Ord := ⟨0, 0, site0, site0⟩
def drv0 : Drv := ⟨0, 0, 0, 0, 0, false⟩
def rep0 : Rep := ⟨0, 0, 0, 0⟩
def ordG (l : List Int) (s : RS) : Ord × RS := (⟨(NumR l s).1, (NumR l (NumR l s).2).1, (siteR l (NumR l (NumR l s).2).2).1, (siteR l (siteR l (NumR l (NumR l s).2).2).2).1⟩, (siteR l (siteR l (NumR l (NumR l s).2).2).2).2)
def ordR (l : List Int) (s : RS) : Ord × RS := if (ordG l s).2.fe = 0 then ordG l s else (ord0, (ordG l s).2)
def drvG (l : List Int) (s : RS) : Drv × RS :=
  (⟨(NumR l s).1, (NumR l (NumR l s).2).1, (NumR l (NumR l (NumR l s).2).2).1, (NumR l (NumR l (NumR l (NumR l s).2).2).2).1, (NumR l (NumR l (NumR l (NumR l (NumR l s).2).2).2).2).1, (FlagR l (NumR l (NumR l (NumR l (NumR l (NumR l s).2).2).2).2).2).1⟩, (FlagR l (NumR l (NumR l (NumR l (NumR l (NumR l s).2).2).2).2).2).2)
def drvR (l : List Int) (s : RS) : Drv × RS := if (drvG l s).2.fe = 0 then drvG l s else (drv0, (drvG l s).2)
def repG (l : List Int) (s : RS) : Rep × RS := (⟨(NumR l s).1, (NumR l (NumR l s).2).1, (NumR l (NumR l (NumR l s).2).2).1, (NumR l (NumR l (NumR l (NumR l s).2).2).2).1⟩, (NumR l (NumR l (NumR l (NumR l s).2).2).2).2)
def repR (l : List Int) (s : RS) : Rep × RS := if (repG l s).2.fe = 0 then repG l s else (rep0, (repG l s).2)
theorem B.Blk.ext0 {w w1 : World} {g : Nat} {cs : Array Value} {t : TypeId} (h : Blk w g cs t) (he : Ext None_ w w1) : Blk w1 g cs t := h.ext he (fun a => a)
theorem ex_of {P : Program} {f : FuncId} {args : Array Value} {w : World} {α : Type} {p : α × RS} {val : α → Value} {R : RS → World → Prop} (h : Calls P f args w fun e w' => e = .returned (val p.1) ∧ R p.2 w') :
    Calls P f args w fun e w' => ∃ n s1, p = (n, s1) ∧ e = .returned (val n) ∧ R s1 w' := h.mono fun _ _ ⟨h1, h2⟩ => ⟨p.1, p.2, rfl, h1, h2⟩

theorem Num_ex (g b : Nat) (l : List Int) (s : RS) (w : World) (h : Rd w g b l s) : Calls Try.prog 62 #[.pointer (some ⟨g, 0, none⟩)] w fun e w' => ∃ n s1, NumR l s = (n, s1) ∧ e = .returned (.int .i64 n) ∧ Rd w' g b l s1 ∧ Ext (fun k => k = g) w w' := ex_of (val := Value.int .i64) (R := fun s1 w' => Rd w' g b l s1 ∧ Ext (fun k => k = g) w w') (Num_any g b l s w h)
theorem Flag_ex (g b : Nat) (l : List Int) (s : RS) (w : World) (h : Rd w g b l s) : Calls Try.prog 63 #[.pointer (some ⟨g, 0, none⟩)] w fun e w' => ∃ n s1, FlagR l s = (n, s1) ∧ e = .returned (.bool n) ∧ Rd w' g b l s1 ∧ Ext (fun k => k = g) w w' := ex_of (val := Value.bool) (R := fun s1 w' => Rd w' g b l s1 ∧ Ext (fun k => k = g) w w') (Flag_any g b l s w h)
set_option maxRecDepth 100000 in
set_option maxHeartbeats 4000000 in
theorem getSite_any (g b : Nat) (l : List Int) (s : RS) (w : World) (h : Rd w g b l s) :
    Calls Try.prog 82 #[.pointer (some ⟨g, 0, none⟩)] w fun e w' => ∃ x s', siteR l s = (x, s') ∧ e = .returned (.agg #[.int .i64 x.p, .int .i64 x.f, .int .i64 x.t, .int .i64 x.s]) ∧ Rd w' g b l s' ∧ Ext (fun k => k = g) w w' := by
  have HL := Lib.hid h.lt
  have hlt := h.lt.1
  have hlt2 := h.lt.2.1
  have R0 := Lib.hid ((h.ext0 (x0 w (.cells #[.int .i64 0, .int .i64 0, .int .i64 0, .int .i64 0] 62))).ext0 (x0 _ (.cells #[.int .i64 0, .int .i64 0, .int .i64 0, .int .i64 0] 62)))
  have X0 := Lib.hid (((Ext.refl (fun k => k = g) w).alloc (.cells #[.int .i64 0, .int .i64 0, .int .i64 0, .int .i64 0] 62)).alloc (.cells #[.int .i64 0, .int .i64 0, .int .i64 0, .int .i64 0] 62))
  have A0 := Lib.hid ((Blk.new w #[.int .i64 0, .int .i64 0, .int .i64 0, .int .i64 0] 62).alloc (.cells #[.int .i64 0, .int .i64 0, .int .i64 0, .int .i64 0] 62))
  have B0 : Hid (Blk ((w.alloc (.cells #[.int .i64 0, .int .i64 0, .int .i64 0, .int .i64 0] 62)).alloc (.cells #[.int .i64 0, .int .i64 0, .int .i64 0, .int .i64 0] 62)) (w.heap.size + 1) #[.int .i64 0, .int .i64 0, .int .i64 0, .int .i64 0] 62) := Lib.hid (by have := Blk.new (w.alloc (.cells #[.int .i64 0, .int .i64 0, .int .i64 0, .int .i64 0] 62)) #[.int .i64 0, .int .i64 0, .int .i64 0, .int .i64 0] 62; simpa using this)
  clear h
  go_enter Try.func82, Try.ntmps82
  go_wp2_with fail
  refine (Num_ex g b l s _ R0.out).mono ?_
  rintro e w1 ⟨n1, s1, e1, rfl, r1, x1⟩
  have B1 : Hid (Blk w1 (w.heap.size + 1) #[.int .i64 0, .int .i64 0, .int .i64 0, .int .i64 0] 62) := Lib.hid ((show Blk _ (w.heap.size + 1) #[.int .i64 0, .int .i64 0, .int .i64 0, .int .i64 0] 62 from B0.out).ext x1 (by omega))
  have A1 : Hid (Blk w1 w.heap.size #[.int .i64 0, .int .i64 0, .int .i64 0, .int .i64 0] 62) := Lib.hid (A0.out.ext x1 (by omega))
  have X1 : Hid (Ext (fun k => k = g) w w1) := Lib.hid (X0.out.trans x1 (fun _ _ a => a))
  have R1 := Lib.hid r1
  have E1 := Lib.hid e1
  clear x1 r1 e1 B0 A0 X0 R0
  have bc := B1.out.cell
  have bf := B1.out.frozen
  go_wp2_with fail
  refine (Num_ex g b l s1 _ (R1.out.ext ((Ext.refl (fun k => k = w.heap.size + 1) w1).setCell (p := ⟨w.heap.size + 1, 0, none⟩) (.inl rfl) (.int .i64 n1)) (by omega) (by omega))).mono ?_
  rintro e w2 ⟨n2, s2, e2, rfl, r2, x2⟩
  have B2 : Hid (Blk w2 (w.heap.size + 1) #[.int .i64 n1, .int .i64 0, .int .i64 0, .int .i64 0] 62) := Lib.hid ((show Blk _ (w.heap.size + 1) #[.int .i64 n1, .int .i64 0, .int .i64 0, .int .i64 0] 62 from (show Blk _ (w.heap.size + 1) #[.int .i64 n1, .int .i64 0, .int .i64 0, .int .i64 0] 62 from (B1.out.set 0 (.int .i64 n1)))).ext x2 (by omega))
  have A2 : Hid (Blk w2 w.heap.size #[.int .i64 0, .int .i64 0, .int .i64 0, .int .i64 0] 62) := Lib.hid ((A1.out.far (p := ⟨w.heap.size + 1, 0, none⟩) (by simp) (.int .i64 n1)).ext x2 (by omega))
  have X2 : Hid (Ext (fun k => k = g) w w2) := Lib.hid ((X1.out.setCell (p := ⟨w.heap.size + 1, 0, none⟩) (.inr (Nat.le_succ _)) (.int .i64 n1)).trans x2 (fun _ _ a => a))
  have R2 := Lib.hid r2
  have E2 := Lib.hid e2
  clear x2 r2 e2 B1 A1 X1 R1 bc bf
  have bc := B2.out.cell
  have bf := B2.out.frozen
  go_wp2_with fail
  refine (Num_ex g b l s2 _ (R2.out.ext ((Ext.refl (fun k => k = w.heap.size + 1) w2).setCell (p := ⟨w.heap.size + 1, 1, none⟩) (.inl rfl) (.int .i64 n2)) (by omega) (by omega))).mono ?_
  rintro e w3 ⟨n3, s3, e3, rfl, r3, x3⟩
  have B3 : Hid (Blk w3 (w.heap.size + 1) #[.int .i64 n1, .int .i64 n2, .int .i64 0, .int .i64 0] 62) := Lib.hid ((show Blk _ (w.heap.size + 1) #[.int .i64 n1, .int .i64 n2, .int .i64 0, .int .i64 0] 62 from (show Blk _ (w.heap.size + 1) #[.int .i64 n1, .int .i64 n2, .int .i64 0, .int .i64 0] 62 from (B2.out.set 1 (.int .i64 n2)))).ext x3 (by omega))
  have A3 : Hid (Blk w3 w.heap.size #[.int .i64 0, .int .i64 0, .int .i64 0, .int .i64 0] 62) := Lib.hid ((A2.out.far (p := ⟨w.heap.size + 1, 1, none⟩) (by simp) (.int .i64 n2)).ext x3 (by omega))
  have X3 : Hid (Ext (fun k => k = g) w w3) := Lib.hid ((X2.out.setCell (p := ⟨w.heap.size + 1, 1, none⟩) (.inr (Nat.le_succ _)) (.int .i64 n2)).trans x3 (fun _ _ a => a))
  have R3 := Lib.hid r3
  have E3 := Lib.hid e3
  clear x3 r3 e3 B2 A2 X2 R2 bc bf
  have bc := B3.out.cell
  have bf := B3.out.frozen
  go_wp2_with fail
  refine (Num_ex g b l s3 _ (R3.out.ext ((Ext.refl (fun k => k = w.heap.size + 1) w3).setCell (p := ⟨w.heap.size + 1, 2, none⟩) (.inl rfl) (.int .i64 n3)) (by omega) (by omega))).mono ?_
  rintro e w4 ⟨n4, s4, e4, rfl, r4, x4⟩
  have B4 : Hid (Blk w4 (w.heap.size + 1) #[.int .i64 n1, .int .i64 n2, .int .i64 n3, .int .i64 0] 62) := Lib.hid ((show Blk _ (w.heap.size + 1) #[.int .i64 n1, .int .i64 n2, .int .i64 n3, .int .i64 0] 62 from (show Blk _ (w.heap.size + 1) #[.int .i64 n1, .int .i64 n2, .int .i64 n3, .int .i64 0] 62 from (B3.out.set 2 (.int .i64 n3)))).ext x4 (by omega))
  have A4 : Hid (Blk w4 w.heap.size #[.int .i64 0, .int .i64 0, .int .i64 0, .int .i64 0] 62) := Lib.hid ((A3.out.far (p := ⟨w.heap.size + 1, 2, none⟩) (by simp) (.int .i64 n3)).ext x4 (by omega))
  have X4 : Hid (Ext (fun k => k = g) w w4) := Lib.hid ((X3.out.setCell (p := ⟨w.heap.size + 1, 2, none⟩) (.inr (Nat.le_succ _)) (.int .i64 n3)).trans x4 (fun _ _ a => a))
  have R4 := Lib.hid r4
  have E4 := Lib.hid e4
  clear x4 r4 e4 B3 A3 X3 R3 bc bf
  have bc := B4.out.cell
  have bf := B4.out.frozen
  have ac := A4.out.cell
  have af := A4.out.frozen
  go_wp2_with fail
  have zc := (show Blk _ w.heap.size #[.int .i64 n1, .int .i64 n2, .int .i64 n3, .int .i64 n4] 62 from (show Blk _ w.heap.size #[.int .i64 n1, .int .i64 n2, .int .i64 n3, .int .i64 n4] 62 from ((show Blk _ w.heap.size #[.int .i64 n1, .int .i64 n2, .int .i64 n3, .int .i64 0] 62 from ((show Blk _ w.heap.size #[.int .i64 n1, .int .i64 n2, .int .i64 0, .int .i64 0] 62 from ((show Blk _ w.heap.size #[.int .i64 n1, .int .i64 0, .int .i64 0, .int .i64 0] 62 from ((A4.out.far (p := ⟨w.heap.size + 1, 3, none⟩) (by simp) (.int .i64 n4)).set 0 (.int .i64 n1))).set 1 (.int .i64 n2))).set 2 (.int .i64 n3))).set 3 (.int .i64 n4)))).cell
  exact bodyPost_ret (v := .agg #[.int .i64 n1, .int .i64 n2, .int .i64 n3, .int .i64 n4]) (by simp [results, Try.results82, go_sem, zc]) rfl ⟨⟨n1, n2, n3, n4⟩, s4, (by simp only [siteR, E1.out, E2.out, E3.out, E4.out]), rfl, R4.out.ext ((((((Ext.refl (fun k => k = w.heap.size ∨ k = w.heap.size + 1) w4).setCell (p := ⟨w.heap.size + 1, 3, none⟩) (.inl (.inr rfl)) (.int .i64 n4)).setCell (p := ⟨w.heap.size, 0, none⟩) (.inl (.inl rfl)) (.int .i64 n1)).setCell (p := ⟨w.heap.size, 1, none⟩) (.inl (.inl rfl)) (.int .i64 n2)).setCell (p := ⟨w.heap.size, 2, none⟩) (.inl (.inl rfl)) (.int .i64 n3)).setCell (p := ⟨w.heap.size, 3, none⟩) (.inl (.inl rfl)) (.int .i64 n4)) (by omega) (by omega), (((((X4.out.setCell (p := ⟨w.heap.size + 1, 3, none⟩) (.inr (Nat.le_succ _)) (.int .i64 n4)).setCell (p := ⟨w.heap.size, 0, none⟩) (.inr (Nat.le_refl _)) (.int .i64 n1)).setCell (p := ⟨w.heap.size, 1, none⟩) (.inr (Nat.le_refl _)) (.int .i64 n2)).setCell (p := ⟨w.heap.size, 2, none⟩) (.inr (Nat.le_refl _)) (.int .i64 n3)).setCell (p := ⟨w.heap.size, 3, none⟩) (.inr (Nat.le_refl _)) (.int .i64 n4))⟩

theorem rNum_ex (g b : Nat) (l : List Int) (s : RS) (w : World) (h : Rf w g b l s) : Calls Try.prog 73 #[.pointer (some ⟨g, 0, none⟩)] w fun e w' => ∃ n s1, NumR l s = (n, s1) ∧ e = .returned (.int .i64 n) ∧ Rf w' g b l s1 ∧ Ext (fun k => k = g) w w' := ex_of (val := Value.int .i64) (R := fun s1 w' => Rf w' g b l s1 ∧ Ext (fun k => k = g) w w') (rNum_any g b l s w h)
theorem rFlag_ex (g b : Nat) (l : List Int) (s : RS) (w : World) (h : Rf w g b l s) : Calls Try.prog 76 #[.pointer (some ⟨g, 0, none⟩)] w fun e w' => ∃ n s1, FlagR l s = (n, s1) ∧ e = .returned (.bool n) ∧ Rf w' g b l s1 ∧ Ext (fun k => k = g) w w' := ex_of (val := Value.bool) (R := fun s1 w' => Rf w' g b l s1 ∧ Ext (fun k => k = g) w w') (rFlag_any g b l s w h)
set_option maxRecDepth 100000 in
set_option maxHeartbeats 4000000 in
theorem rgetSite_any (g b : Nat) (l : List Int) (s : RS) (w : World) (h : Rf w g b l s) :
    Calls Try.prog 83 #[.pointer (some ⟨g, 0, none⟩)] w fun e w' => ∃ x s', siteR l s = (x, s') ∧ e = .returned (.agg #[.int .i64 x.p, .int .i64 x.f, .int .i64 x.t, .int .i64 x.s]) ∧ Rf w' g b l s' ∧ Ext (fun k => k = g) w w' := by
  have HL := Lib.hid h.lt
  have hlt := h.lt.1
  have hlt2 := h.lt.2.1
  have R0 := Lib.hid ((h.ext0 (x0 w (.cells #[.int .i64 0, .int .i64 0, .int .i64 0, .int .i64 0] 62))).ext0 (x0 _ (.cells #[.int .i64 0, .int .i64 0, .int .i64 0, .int .i64 0] 62)))
  have X0 := Lib.hid (((Ext.refl (fun k => k = g) w).alloc (.cells #[.int .i64 0, .int .i64 0, .int .i64 0, .int .i64 0] 62)).alloc (.cells #[.int .i64 0, .int .i64 0, .int .i64 0, .int .i64 0] 62))
  have A0 := Lib.hid ((Blk.new w #[.int .i64 0, .int .i64 0, .int .i64 0, .int .i64 0] 62).alloc (.cells #[.int .i64 0, .int .i64 0, .int .i64 0, .int .i64 0] 62))
  have B0 : Hid (Blk ((w.alloc (.cells #[.int .i64 0, .int .i64 0, .int .i64 0, .int .i64 0] 62)).alloc (.cells #[.int .i64 0, .int .i64 0, .int .i64 0, .int .i64 0] 62)) (w.heap.size + 1) #[.int .i64 0, .int .i64 0, .int .i64 0, .int .i64 0] 62) := Lib.hid (by have := Blk.new (w.alloc (.cells #[.int .i64 0, .int .i64 0, .int .i64 0, .int .i64 0] 62)) #[.int .i64 0, .int .i64 0, .int .i64 0, .int .i64 0] 62; simpa using this)
  clear h
  go_enter Try.func83, Try.ntmps83
  go_wp2_with fail
  refine (rNum_ex g b l s _ R0.out).mono ?_
  rintro e w1 ⟨n1, s1, e1, rfl, r1, x1⟩
  have B1 : Hid (Blk w1 (w.heap.size + 1) #[.int .i64 0, .int .i64 0, .int .i64 0, .int .i64 0] 62) := Lib.hid ((show Blk _ (w.heap.size + 1) #[.int .i64 0, .int .i64 0, .int .i64 0, .int .i64 0] 62 from B0.out).ext x1 (by omega))
  have A1 : Hid (Blk w1 w.heap.size #[.int .i64 0, .int .i64 0, .int .i64 0, .int .i64 0] 62) := Lib.hid (A0.out.ext x1 (by omega))
  have X1 : Hid (Ext (fun k => k = g) w w1) := Lib.hid (X0.out.trans x1 (fun _ _ a => a))
  have R1 := Lib.hid r1
  have E1 := Lib.hid e1
  clear x1 r1 e1 B0 A0 X0 R0
  have bc := B1.out.cell
  have bf := B1.out.frozen
  go_wp2_with fail
  refine (rNum_ex g b l s1 _ (R1.out.ext ((Ext.refl (fun k => k = w.heap.size + 1) w1).setCell (p := ⟨w.heap.size + 1, 0, none⟩) (.inl rfl) (.int .i64 n1)) (by omega) (by omega))).mono ?_
  rintro e w2 ⟨n2, s2, e2, rfl, r2, x2⟩
  have B2 : Hid (Blk w2 (w.heap.size + 1) #[.int .i64 n1, .int .i64 0, .int .i64 0, .int .i64 0] 62) := Lib.hid ((show Blk _ (w.heap.size + 1) #[.int .i64 n1, .int .i64 0, .int .i64 0, .int .i64 0] 62 from (show Blk _ (w.heap.size + 1) #[.int .i64 n1, .int .i64 0, .int .i64 0, .int .i64 0] 62 from (B1.out.set 0 (.int .i64 n1)))).ext x2 (by omega))
  have A2 : Hid (Blk w2 w.heap.size #[.int .i64 0, .int .i64 0, .int .i64 0, .int .i64 0] 62) := Lib.hid ((A1.out.far (p := ⟨w.heap.size + 1, 0, none⟩) (by simp) (.int .i64 n1)).ext x2 (by omega))
  have X2 : Hid (Ext (fun k => k = g) w w2) := Lib.hid ((X1.out.setCell (p := ⟨w.heap.size + 1, 0, none⟩) (.inr (Nat.le_succ _)) (.int .i64 n1)).trans x2 (fun _ _ a => a))
  have R2 := Lib.hid r2
  have E2 := Lib.hid e2
  clear x2 r2 e2 B1 A1 X1 R1 bc bf
  have bc := B2.out.cell
  have bf := B2.out.frozen
  go_wp2_with fail
  refine (rNum_ex g b l s2 _ (R2.out.ext ((Ext.refl (fun k => k = w.heap.size + 1) w2).setCell (p := ⟨w.heap.size + 1, 1, none⟩) (.inl rfl) (.int .i64 n2)) (by omega) (by omega))).mono ?_
  rintro e w3 ⟨n3, s3, e3, rfl, r3, x3⟩
  have B3 : Hid (Blk w3 (w.heap.size + 1) #[.int .i64 n1, .int .i64 n2, .int .i64 0, .int .i64 0] 62) := Lib.hid ((show Blk _ (w.heap.size + 1) #[.int .i64 n1, .int .i64 n2, .int .i64 0, .int .i64 0] 62 from (show Blk _ (w.heap.size + 1) #[.int .i64 n1, .int .i64 n2, .int .i64 0, .int .i64 0] 62 from (B2.out.set 1 (.int .i64 n2)))).ext x3 (by omega))
  have A3 : Hid (Blk w3 w.heap.size #[.int .i64 0, .int .i64 0, .int .i64 0, .int .i64 0] 62) := Lib.hid ((A2.out.far (p := ⟨w.heap.size + 1, 1, none⟩) (by simp) (.int .i64 n2)).ext x3 (by omega))
  have X3 : Hid (Ext (fun k => k = g) w w3) := Lib.hid ((X2.out.setCell (p := ⟨w.heap.size + 1, 1, none⟩) (.inr (Nat.le_succ _)) (.int .i64 n2)).trans x3 (fun _ _ a => a))
  have R3 := Lib.hid r3
  have E3 := Lib.hid e3
  clear x3 r3 e3 B2 A2 X2 R2 bc bf
  have bc := B3.out.cell
  have bf := B3.out.frozen
  go_wp2_with fail
  refine (rNum_ex g b l s3 _ (R3.out.ext ((Ext.refl (fun k => k = w.heap.size + 1) w3).setCell (p := ⟨w.heap.size + 1, 2, none⟩) (.inl rfl) (.int .i64 n3)) (by omega) (by omega))).mono ?_
  rintro e w4 ⟨n4, s4, e4, rfl, r4, x4⟩
  have B4 : Hid (Blk w4 (w.heap.size + 1) #[.int .i64 n1, .int .i64 n2, .int .i64 n3, .int .i64 0] 62) := Lib.hid ((show Blk _ (w.heap.size + 1) #[.int .i64 n1, .int .i64 n2, .int .i64 n3, .int .i64 0] 62 from (show Blk _ (w.heap.size + 1) #[.int .i64 n1, .int .i64 n2, .int .i64 n3, .int .i64 0] 62 from (B3.out.set 2 (.int .i64 n3)))).ext x4 (by omega))
  have A4 : Hid (Blk w4 w.heap.size #[.int .i64 0, .int .i64 0, .int .i64 0, .int .i64 0] 62) := Lib.hid ((A3.out.far (p := ⟨w.heap.size + 1, 2, none⟩) (by simp) (.int .i64 n3)).ext x4 (by omega))
  have X4 : Hid (Ext (fun k => k = g) w w4) := Lib.hid ((X3.out.setCell (p := ⟨w.heap.size + 1, 2, none⟩) (.inr (Nat.le_succ _)) (.int .i64 n3)).trans x4 (fun _ _ a => a))
  have R4 := Lib.hid r4
  have E4 := Lib.hid e4
  clear x4 r4 e4 B3 A3 X3 R3 bc bf
  have bc := B4.out.cell
  have bf := B4.out.frozen
  have ac := A4.out.cell
  have af := A4.out.frozen
  go_wp2_with fail
  have zc := (show Blk _ w.heap.size #[.int .i64 n1, .int .i64 n2, .int .i64 n3, .int .i64 n4] 62 from (show Blk _ w.heap.size #[.int .i64 n1, .int .i64 n2, .int .i64 n3, .int .i64 n4] 62 from ((show Blk _ w.heap.size #[.int .i64 n1, .int .i64 n2, .int .i64 n3, .int .i64 0] 62 from ((show Blk _ w.heap.size #[.int .i64 n1, .int .i64 n2, .int .i64 0, .int .i64 0] 62 from ((show Blk _ w.heap.size #[.int .i64 n1, .int .i64 0, .int .i64 0, .int .i64 0] 62 from ((A4.out.far (p := ⟨w.heap.size + 1, 3, none⟩) (by simp) (.int .i64 n4)).set 0 (.int .i64 n1))).set 1 (.int .i64 n2))).set 2 (.int .i64 n3))).set 3 (.int .i64 n4)))).cell
  exact bodyPost_ret (v := .agg #[.int .i64 n1, .int .i64 n2, .int .i64 n3, .int .i64 n4]) (by simp [results, Try.results83, go_sem, zc]) rfl ⟨⟨n1, n2, n3, n4⟩, s4, (by simp only [siteR, E1.out, E2.out, E3.out, E4.out]), rfl, R4.out.ext ((((((Ext.refl (fun k => k = w.heap.size ∨ k = w.heap.size + 1) w4).setCell (p := ⟨w.heap.size + 1, 3, none⟩) (.inl (.inr rfl)) (.int .i64 n4)).setCell (p := ⟨w.heap.size, 0, none⟩) (.inl (.inl rfl)) (.int .i64 n1)).setCell (p := ⟨w.heap.size, 1, none⟩) (.inl (.inl rfl)) (.int .i64 n2)).setCell (p := ⟨w.heap.size, 2, none⟩) (.inl (.inl rfl)) (.int .i64 n3)).setCell (p := ⟨w.heap.size, 3, none⟩) (.inl (.inl rfl)) (.int .i64 n4)) (by omega) (by omega), (((((X4.out.setCell (p := ⟨w.heap.size + 1, 3, none⟩) (.inr (Nat.le_succ _)) (.int .i64 n4)).setCell (p := ⟨w.heap.size, 0, none⟩) (.inr (Nat.le_refl _)) (.int .i64 n1)).setCell (p := ⟨w.heap.size, 1, none⟩) (.inr (Nat.le_refl _)) (.int .i64 n2)).setCell (p := ⟨w.heap.size, 2, none⟩) (.inr (Nat.le_refl _)) (.int .i64 n3)).setCell (p := ⟨w.heap.size, 3, none⟩) (.inr (Nat.le_refl _)) (.int .i64 n4))⟩

end Go.Proofs.Ytmobdofkiddfhaa
