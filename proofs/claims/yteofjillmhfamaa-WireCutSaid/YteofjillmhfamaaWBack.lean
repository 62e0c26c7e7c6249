/- draylaw3.back, walked: an item read again. Written by gen_back.py. -/
import Derived.Test.YteofjillmhfamaaWAsk
import Derived.Test.YteofjillmhfamaaItems
set_option linter.unusedVariables false
set_option linter.unusedSimpArgs false
namespace Go.Proofs.Yteofjillmhfamaa
open Go.RowKit B

set_option maxRecDepth 100000 in
set_option maxHeartbeats 8000000 in
theorem back1_any (g b : Nat) (l : List Int) (s : RS) (x : Item) (A2 : Option Addr) (c2 : Nat) (w : World) (h : Rd w g b l s) (hx : ItOk w x A2 c2) (hl8 : l.length ≤ 225000000000000) (hk : (x.kind == 1) = true) :
    Calls Try.prog 27 #[.pointer (some ⟨g, 0, none⟩), x.val A2 c2] w fun e w' => e = .returned (.bool ((NumR l s).1 == x.n)) ∧ Rd w' g b l (NumR l s).2 ∧ Ext (OnlyG g) w w' := by
  have HL := Lib.hid h.lt
  have HB := Lib.hid h.bounds
  have HXL : Hid ((x.l.length : Int) ≤ 17592186043904) := Lib.hid (by have := hx.len; omega)
  have R0 : ∀ W, Ext None_ w W → Hid (Rd W g b l s) := fun W hh => Lib.hid (h.ext0 hh)
  have L0 : ∀ W, Ext (OnlyG g) w W → (∀ ad, A2 = some ad → 0 < x.l.length → ad.block ≠ g) → Hid (Row W A2 (I8 x.l)) := fun W hh hn => Lib.hid (by
    by_cases h0 : 0 < (I8 x.l).length
    · exact hx.row.ext hh (fun ad ha e => hn ad ha (by rw [I8_length] at h0; exact h0) e)
    · intro i v hi
      rw [List.getElem?_eq_none (by omega)] at hi
      cases hi)
  have hxl := hx.len
  have hxs := hx.str
  have CC : Hid ((w.alloc (.cells #[.int .i64 x.kind, .int .i64 x.n, .int .i64 x.most, .slice A2 x.l.length c2, .string x.s, .bool x.f] 37)).cell? ⟨w.heap.size, 1, none⟩ = some (.int .i64 x.n)) := Lib.hid ((Blk.new w _ _).cell 1)
  clear h hx hl8
  unfold Item.val
  have e1 := hk
  go_enter Try.func27, Try.ntmps27
  go_wp2
  go_region_held3 (fun W => W.cell? ⟨w.heap.size, 1, none⟩ = some (.int .i64 x.n)) (first | exact CC.out | exact hcc | (simp [*]; done)) (first
    | (go_at_call 35; (with_reducible refine (Num_any g b l s _ (R0 _ (by first | exact x0 _ _ | exact (x0 _ _).drew)).out).mono ?_); rintro e w1 ⟨rfl, r1, x1⟩; have R1 := Lib.hid r1; have X1 : Hid (Ext (OnlyG g) w w1) := Lib.hid (Ext.trans ((by first | exact x0 _ _ | exact (x0 _ _).drew : Ext None_ w _).mono (fun _ _ a => a.elim)) x1 (fun _ _ a => a)); have xb : Ext (OnlyG g) (w.alloc (.cells #[.int .i64 x.kind, .int .i64 x.n, .int .i64 x.most, .slice A2 x.l.length c2, .string x.s, .bool x.f] 37)) w1 := (by first | exact x1 | exact Ext.trans ((Ext.refl (OnlyG g) _).drew) x1 (fun _ _ a => a)); have XB1 := Lib.hid xb; have hcc := xb.cell CC.out (fun e => by have := HL.out; have e2 : w.heap.size = g := e; omega); clear xb r1 x1))
  go_wp2
  go_ret
  exact ⟨rfl, R1.out, X1.out⟩

set_option maxRecDepth 100000 in
set_option maxHeartbeats 8000000 in
theorem back2_any (g b : Nat) (l : List Int) (s : RS) (x : Item) (A2 : Option Addr) (c2 : Nat) (w : World) (h : Rd w g b l s) (hx : ItOk w x A2 c2) (hl8 : l.length ≤ 225000000000000) (hA : ∀ ad, A2 = some ad → 0 < x.l.length → ad.block ≠ g) (hk : (x.kind == 1) = false ∧ (x.kind == 2) = true) :
    Calls Try.prog 27 #[.pointer (some ⟨g, 0, none⟩), x.val A2 c2] w fun e w' => e = .returned (.bool (decide ((NumsR l x.l.length s).1 = x.l))) ∧ Rd w' g b l (NumsR l x.l.length s).2 ∧ Ext (OnlyG g) w w' := by
  have HL := Lib.hid h.lt
  have HB := Lib.hid h.bounds
  have HXL : Hid ((x.l.length : Int) ≤ 17592186043904) := Lib.hid (by have := hx.len; omega)
  have R0 : ∀ W, Ext None_ w W → Hid (Rd W g b l s) := fun W hh => Lib.hid (h.ext0 hh)
  have L0 : ∀ W, Ext (OnlyG g) w W → (∀ ad, A2 = some ad → 0 < x.l.length → ad.block ≠ g) → Hid (Row W A2 (I8 x.l)) := fun W hh hn => Lib.hid (by
    by_cases h0 : 0 < (I8 x.l).length
    · exact hx.row.ext hh (fun ad ha e => hn ad ha (by rw [I8_length] at h0; exact h0) e)
    · intro i v hi
      rw [List.getElem?_eq_none (by omega)] at hi
      cases hi)
  have hxl := hx.len
  have hxs := hx.str
  have CC : Hid ((w.alloc (.cells #[.int .i64 x.kind, .int .i64 x.n, .int .i64 x.most, .slice A2 x.l.length c2, .string x.s, .bool x.f] 37)).cell? ⟨w.heap.size, 3, none⟩ = some (.slice A2 x.l.length c2)) := Lib.hid ((Blk.new w _ _).cell 3)
  clear h hx hl8
  unfold Item.val
  obtain ⟨e1, e2⟩ := hk
  go_enter Try.func27, Try.ntmps27
  go_wp2
  go_region_held3 (fun W => W.cell? ⟨w.heap.size, 3, none⟩ = some (.slice A2 x.l.length c2)) (first | exact CC.out | exact hcc | (simp [*]; done)) (first
    | (go_at_call 20; (with_reducible refine (Nums_any g b l s x.l.length _ (R0 _ (by first | exact x0 _ _ | exact (x0 _ _).drew)).out HXL.out).mono ?_); rintro e w1 ⟨v1, rfl, o1, r1, x1⟩; have R1 := Lib.hid r1; have X1 : Hid (Ext (OnlyG g) w w1) := Lib.hid (Ext.trans ((by first | exact x0 _ _ | exact (x0 _ _).drew : Ext None_ w _).mono (fun _ _ a => a.elim)) x1 (fun _ _ a => a)); have xb : Ext (OnlyG g) (w.alloc (.cells #[.int .i64 x.kind, .int .i64 x.n, .int .i64 x.most, .slice A2 x.l.length c2, .string x.s, .bool x.f] 37)) w1 := (by first | exact x1 | exact Ext.trans ((Ext.refl (OnlyG g) _).drew) x1 (fun _ _ a => a)); have XB1 := Lib.hid xb; have hcc := xb.cell CC.out (fun e => by have := HL.out; have e2 : w.heap.size = g := e; omega); clear xb r1 x1; obtain ⟨A1, c1, rfl, _, _, q1⟩ := Own.slice o1; have Q1 := Lib.hid q1; clear o1 q1)
    | (go_at_call 22; (with_reducible refine (sameI_any _ _ _ _ _ _ _ (Q1.out) ((L0 _ X1.out hA).out) (NumsR_len _ _ _ HB.out.1 HB.out.2.1) (by omega)).mono ?_); rintro e w3 ⟨rfl, x3⟩; have R3 := Lib.hid (R1.out.ext0 x3); have X3 : Hid (Ext (OnlyG g) w w3) := Lib.hid (X1.out.trans0 x3); have hcc := x3.cell hcc (fun a => a); clear x3))
  go_wp2
  go_ret
  exact ⟨rfl, R3.out, X3.out⟩

set_option maxRecDepth 100000 in
set_option maxHeartbeats 8000000 in
theorem back3_any (g b : Nat) (l : List Int) (s : RS) (x : Item) (A2 : Option Addr) (c2 : Nat) (w : World) (h : Rd w g b l s) (hx : ItOk w x A2 c2) (hl8 : l.length ≤ 225000000000000) (hk : (x.kind == 1) = false ∧ (x.kind == 2) = false ∧ (x.kind == 3) = true) :
    Calls Try.prog 27 #[.pointer (some ⟨g, 0, none⟩), x.val A2 c2] w fun e w' => e = .returned (.bool ((strOfNums (TextR l x.s.size s).1).toList == x.s.toList)) ∧ Rd w' g b l (TextR l x.s.size s).2 ∧ Ext (OnlyG g) w w' := by
  have HL := Lib.hid h.lt
  have HB := Lib.hid h.bounds
  have HXL : Hid ((x.l.length : Int) ≤ 17592186043904) := Lib.hid (by have := hx.len; omega)
  have R0 : ∀ W, Ext None_ w W → Hid (Rd W g b l s) := fun W hh => Lib.hid (h.ext0 hh)
  have L0 : ∀ W, Ext (OnlyG g) w W → (∀ ad, A2 = some ad → 0 < x.l.length → ad.block ≠ g) → Hid (Row W A2 (I8 x.l)) := fun W hh hn => Lib.hid (by
    by_cases h0 : 0 < (I8 x.l).length
    · exact hx.row.ext hh (fun ad ha e => hn ad ha (by rw [I8_length] at h0; exact h0) e)
    · intro i v hi
      rw [List.getElem?_eq_none (by omega)] at hi
      cases hi)
  have hxl := hx.len
  have hxs := hx.str
  have CC : Hid ((w.alloc (.cells #[.int .i64 x.kind, .int .i64 x.n, .int .i64 x.most, .slice A2 x.l.length c2, .string x.s, .bool x.f] 37)).cell? ⟨w.heap.size, 4, none⟩ = some (.string x.s)) := Lib.hid ((Blk.new w _ _).cell 4)
  clear h hx hl8
  unfold Item.val
  obtain ⟨e1, e2, e3⟩ := hk
  go_enter Try.func27, Try.ntmps27
  go_wp2
  go_region_held3 (fun W => W.cell? ⟨w.heap.size, 4, none⟩ = some (.string x.s)) (first | exact CC.out | exact hcc | (simp [*]; done)) (first
    | (go_at_call 38; (with_reducible refine (Text_any g b l s x.s.size _ (R0 _ (by first | exact x0 _ _ | exact (x0 _ _).drew)).out).mono ?_); rintro e w1 ⟨rfl, r1, x1⟩; have R1 := Lib.hid r1; have X1 : Hid (Ext (OnlyG g) w w1) := Lib.hid (Ext.trans ((by first | exact x0 _ _ | exact (x0 _ _).drew : Ext None_ w _).mono (fun _ _ a => a.elim)) x1 (fun _ _ a => a)); have xb : Ext (OnlyG g) (w.alloc (.cells #[.int .i64 x.kind, .int .i64 x.n, .int .i64 x.most, .slice A2 x.l.length c2, .string x.s, .bool x.f] 37)) w1 := (by first | exact x1 | exact Ext.trans ((Ext.refl (OnlyG g) _).drew) x1 (fun _ _ a => a)); have XB1 := Lib.hid xb; have hcc := xb.cell CC.out (fun e => by have := HL.out; have e2 : w.heap.size = g := e; omega); clear xb r1 x1))
  go_wp2
  go_ret
  exact ⟨rfl, R1.out, X1.out⟩

set_option maxRecDepth 100000 in
set_option maxHeartbeats 8000000 in
theorem back4_any (g b : Nat) (l : List Int) (s : RS) (x : Item) (A2 : Option Addr) (c2 : Nat) (w : World) (h : Rd w g b l s) (hx : ItOk w x A2 c2) (hl8 : l.length ≤ 225000000000000) (hk : (x.kind == 1) = false ∧ (x.kind == 2) = false ∧ (x.kind == 3) = false ∧ (x.kind == 4) = true) :
    Calls Try.prog 27 #[.pointer (some ⟨g, 0, none⟩), x.val A2 c2] w fun e w' => e = .returned (.bool ((FlagR l s).1 == x.f)) ∧ Rd w' g b l (FlagR l s).2 ∧ Ext (OnlyG g) w w' := by
  have HL := Lib.hid h.lt
  have HB := Lib.hid h.bounds
  have HXL : Hid ((x.l.length : Int) ≤ 17592186043904) := Lib.hid (by have := hx.len; omega)
  have R0 : ∀ W, Ext None_ w W → Hid (Rd W g b l s) := fun W hh => Lib.hid (h.ext0 hh)
  have L0 : ∀ W, Ext (OnlyG g) w W → (∀ ad, A2 = some ad → 0 < x.l.length → ad.block ≠ g) → Hid (Row W A2 (I8 x.l)) := fun W hh hn => Lib.hid (by
    by_cases h0 : 0 < (I8 x.l).length
    · exact hx.row.ext hh (fun ad ha e => hn ad ha (by rw [I8_length] at h0; exact h0) e)
    · intro i v hi
      rw [List.getElem?_eq_none (by omega)] at hi
      cases hi)
  have hxl := hx.len
  have hxs := hx.str
  have CC : Hid ((w.alloc (.cells #[.int .i64 x.kind, .int .i64 x.n, .int .i64 x.most, .slice A2 x.l.length c2, .string x.s, .bool x.f] 37)).cell? ⟨w.heap.size, 5, none⟩ = some (.bool x.f)) := Lib.hid ((Blk.new w _ _).cell 5)
  clear h hx hl8
  unfold Item.val
  obtain ⟨e1, e2, e3, e4⟩ := hk
  go_enter Try.func27, Try.ntmps27
  go_wp2
  go_region_held3 (fun W => W.cell? ⟨w.heap.size, 5, none⟩ = some (.bool x.f)) (first | exact CC.out | exact hcc | (simp [*]; done)) (first
    | (go_at_call 36; (with_reducible refine (Flag_any g b l s _ (R0 _ (by first | exact x0 _ _ | exact (x0 _ _).drew)).out).mono ?_); rintro e w1 ⟨rfl, r1, x1⟩; have R1 := Lib.hid r1; have X1 : Hid (Ext (OnlyG g) w w1) := Lib.hid (Ext.trans ((by first | exact x0 _ _ | exact (x0 _ _).drew : Ext None_ w _).mono (fun _ _ a => a.elim)) x1 (fun _ _ a => a)); have xb : Ext (OnlyG g) (w.alloc (.cells #[.int .i64 x.kind, .int .i64 x.n, .int .i64 x.most, .slice A2 x.l.length c2, .string x.s, .bool x.f] 37)) w1 := (by first | exact x1 | exact Ext.trans ((Ext.refl (OnlyG g) _).drew) x1 (fun _ _ a => a)); have XB1 := Lib.hid xb; have hcc := xb.cell CC.out (fun e => by have := HL.out; have e2 : w.heap.size = g := e; omega); clear xb r1 x1))
  go_wp2
  go_ret
  exact ⟨rfl, R1.out, X1.out⟩

set_option maxRecDepth 100000 in
set_option maxHeartbeats 8000000 in
theorem back5_any (g b : Nat) (l : List Int) (s : RS) (x : Item) (A2 : Option Addr) (c2 : Nat) (w : World) (h : Rd w g b l s) (hx : ItOk w x A2 c2) (hl8 : l.length ≤ 225000000000000) (hk : (x.kind == 1) = false ∧ (x.kind == 2) = false ∧ (x.kind == 3) = false ∧ (x.kind == 4) = false) :
    Calls Try.prog 27 #[.pointer (some ⟨g, 0, none⟩), x.val A2 c2] w fun e w' => e = .returned (.bool true) ∧ Rd w' g b l s ∧ Ext (OnlyG g) w w' := by
  have HL := Lib.hid h.lt
  have HB := Lib.hid h.bounds
  have HXL : Hid ((x.l.length : Int) ≤ 17592186043904) := Lib.hid (by have := hx.len; omega)
  have R0 : ∀ W, Ext None_ w W → Hid (Rd W g b l s) := fun W hh => Lib.hid (h.ext0 hh)
  have L0 : ∀ W, Ext (OnlyG g) w W → (∀ ad, A2 = some ad → 0 < x.l.length → ad.block ≠ g) → Hid (Row W A2 (I8 x.l)) := fun W hh hn => Lib.hid (by
    by_cases h0 : 0 < (I8 x.l).length
    · exact hx.row.ext hh (fun ad ha e => hn ad ha (by rw [I8_length] at h0; exact h0) e)
    · intro i v hi
      rw [List.getElem?_eq_none (by omega)] at hi
      cases hi)
  have hxl := hx.len
  have hxs := hx.str
  clear h hx hl8
  unfold Item.val
  obtain ⟨e1, e2, e3, e4⟩ := hk
  go_enter Try.func27, Try.ntmps27
  go_wp2
  go_ret
  exact ⟨rfl, (R0 _ (x0 _ _)).out, x0 _ _ |>.mono (fun _ _ a => a.elim)⟩

end Go.Proofs.Yteofjillmhfamaa
