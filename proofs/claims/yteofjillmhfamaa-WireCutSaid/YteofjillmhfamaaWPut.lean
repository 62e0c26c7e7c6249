/- draylaw3.put, walked: an item written by both. Written by gen_put.py. -/
import Derived.Test.YteofjillmhfamaaItems
import Derived.Test.YteofjillmhfamaaRef3w
set_option linter.unusedVariables false
set_option linter.unusedSimpArgs false
namespace Go.Proofs.Yteofjillmhfamaa
open Go.RowKit B
/-- What an item is written as. -/
def encI (x : Item) : List Int := if x.kind = 1 then enc x.n else if x.kind = 2 then enc x.l.length ++ encs x.l else if x.kind = 3 then enc x.s.size ++ bytesOf x.s else if x.kind = 4 then [if x.f = true then 1 else 0] else []
theorem encI_len (x : Item) (h1 : x.l.length ≤ 17592186043904) (h2 : x.s.size ≤ 140737488351232) : (encI x).length ≤ 176000000000000 := by
  unfold encI
  have e1 := (enc_length x.n).2; have e2 := (enc_length x.l.length).2; have e3 := (enc_length x.s.size).2; have e4 := encs_length x.l; have e5 := bytesOf_length x.s
  repeat' split
  all_goals (first | omega | (simp only [List.length_append, List.length_singleton, List.length_nil]; omega) | simp)
theorem OwnB.eq {w : World} {ok : Nat → Prop} {v : Value} {l l2 : List Int} (h : OwnB w ok v l) (e : l = l2) : OwnB w ok v l2 := e ▸ h

set_option maxRecDepth 100000 in
set_option maxHeartbeats 8000000 in
theorem put1_any (A : Option Addr) (c : Nat) (l : List Int) (x : Item) (A2 : Option Addr) (c2 : Nat) (w : World) (hrow : Row w A (B8 l)) (hx : ItOk w x A2 c2) (hlen : l.length ≤ 4000) (hk : (x.kind == 1) = true) :
    Calls Try.prog 17 #[.slice A l.length c, x.val A2 c2] w fun e w' => ∃ v1 v2, e = .returned (.tuple #[v1, v2]) ∧ OwnB w' (fun k => w.heap.size ≤ k) v1 (l ++ encI x) ∧ OwnB w' (fun k => w.heap.size ≤ k) v2 (l ++ encI x) ∧ Ext None_ w w' := by
  have R0 : ∀ W, Ext None_ w W → Hid (Row W A (B8 l)) := fun W hh => Lib.hid (hrow.ext0 hh)
  have L0 : ∀ W, Ext None_ w W → Hid (Row W A2 (I8 x.l)) := fun W hh => Lib.hid (hx.row.ext0 hh)
  have hxi := Lib.hid hx.ints
  have hxn := Lib.hid hx.n
  have hxl := hx.len
  have hxs := hx.str
  have CC : Hid ((w.alloc (.cells #[.int .i64 x.kind, .int .i64 x.n, .int .i64 x.most, .slice A2 x.l.length c2, .string x.s, .bool x.f] 37)).cell? ⟨w.heap.size, 1, none⟩ = some (.int .i64 x.n)) := Lib.hid ((Blk.new w _ _).cell 1)
  clear hrow hx
  unfold Item.val
  have e1 := hk
  have hE : encI x = enc x.n := by
    unfold encI
    simp only [beq_iff_eq, beq_eq_false_iff_ne, ne_eq] at e1
    simp [e1]
  go_enter Try.func17, Try.ntmps17
  go_wp2
  go_region_held3 (fun W => W.cell? ⟨w.heap.size, 1, none⟩ = some (.int .i64 x.n)) (first | exact CC.out | exact hcc | (simp [*]; done)) (first
    | (go_at_call 10; (with_reducible refine (wNum_any A c l x.n _ hxn.out (R0 _ (by first | exact x0 _ _ | exact (x0 _ _).drew)).out (by omega)).mono ?_); rintro e w1 ⟨v1, rfl, o1, x1⟩; have O1 := Lib.hid ((OwnB.mono (ok1 := fun k => w.heap.size ≤ k) o1 (fun k _ hk => Nat.le_trans (Ext.size (by first | exact x0 _ _ | exact (x0 _ _).drew : Ext None_ w _)) hk)).eq (by simp only [hE, List.append_assoc] : _ = l ++ encI x)); have X1 : Hid (Ext None_ w w1) := Lib.hid (Ext.trans0 (by first | exact x0 _ _ | exact (x0 _ _).drew : Ext None_ w _) x1); have xb : Ext None_ (w.alloc (.cells #[.int .i64 x.kind, .int .i64 x.n, .int .i64 x.most, .slice A2 x.l.length c2, .string x.s, .bool x.f] 37)) w1 := (by first | exact x1 | exact Ext.trans0 ((Ext.refl _ _).drew) x1); have hcc := xb.cell CC.out (fun a => a); clear o1 x1 xb)
    | (go_at_call 39; (with_reducible refine (rwNum_any A c l x.n _ hxn.out (R0 _ X1.out).out (by omega)).mono ?_); rintro e w2 ⟨v2, rfl, o2, x2⟩; have O2 := Lib.hid ((OwnB.mono (ok1 := fun k => w.heap.size ≤ k) o2 (fun k _ hk => Nat.le_trans (Ext.size X1.out) hk)).eq (by simp only [hE, List.append_assoc] : _ = l ++ encI x)); have P1 := Lib.hid (OwnB.ext0 O1.out x2); have X2 : Hid (Ext None_ w w2) := Lib.hid (Ext.trans0 X1.out x2); have hcc := x2.cell hcc (fun a => a); clear o2 x2))
  go_wp2
  go_ret2
  exact ⟨_, _, rfl, P1.out, O2.out, X2.out⟩

set_option maxRecDepth 100000 in
set_option maxHeartbeats 8000000 in
theorem put2_any (A : Option Addr) (c : Nat) (l : List Int) (x : Item) (A2 : Option Addr) (c2 : Nat) (w : World) (hrow : Row w A (B8 l)) (hx : ItOk w x A2 c2) (hlen : l.length ≤ 4000) (hk : (x.kind == 1) = false ∧ (x.kind == 2) = true) :
    Calls Try.prog 17 #[.slice A l.length c, x.val A2 c2] w fun e w' => ∃ v1 v2, e = .returned (.tuple #[v1, v2]) ∧ OwnB w' (fun k => w.heap.size ≤ k) v1 (l ++ encI x) ∧ OwnB w' (fun k => w.heap.size ≤ k) v2 (l ++ encI x) ∧ Ext None_ w w' := by
  have R0 : ∀ W, Ext None_ w W → Hid (Row W A (B8 l)) := fun W hh => Lib.hid (hrow.ext0 hh)
  have L0 : ∀ W, Ext None_ w W → Hid (Row W A2 (I8 x.l)) := fun W hh => Lib.hid (hx.row.ext0 hh)
  have hxi := Lib.hid hx.ints
  have hxn := Lib.hid hx.n
  have hxl := hx.len
  have hxs := hx.str
  have CC : Hid ((w.alloc (.cells #[.int .i64 x.kind, .int .i64 x.n, .int .i64 x.most, .slice A2 x.l.length c2, .string x.s, .bool x.f] 37)).cell? ⟨w.heap.size, 3, none⟩ = some (.slice A2 x.l.length c2)) := Lib.hid ((Blk.new w _ _).cell 3)
  clear hrow hx
  unfold Item.val
  obtain ⟨e1, e2⟩ := hk
  have hE : encI x = enc x.l.length ++ encs x.l := by
    unfold encI
    simp only [beq_iff_eq, beq_eq_false_iff_ne, ne_eq] at e1 e2
    simp [e1, e2]
  go_enter Try.func17, Try.ntmps17
  go_wp2
  go_region_held3 (fun W => W.cell? ⟨w.heap.size, 3, none⟩ = some (.slice A2 x.l.length c2)) (first | exact CC.out | exact hcc | (simp [*]; done)) (first
    | (go_at_call 11; (with_reducible refine (wNums_any A c l A2 c2 x.l _ (R0 _ (by first | exact x0 _ _ | exact (x0 _ _).drew)).out (L0 _ (by first | exact x0 _ _ | exact (x0 _ _).drew)).out hxi.out (by omega)).mono ?_); rintro e w1 ⟨v1, rfl, o1, x1⟩; have O1 := Lib.hid ((OwnB.mono (ok1 := fun k => w.heap.size ≤ k) o1 (fun k _ hk => Nat.le_trans (Ext.size (by first | exact x0 _ _ | exact (x0 _ _).drew : Ext None_ w _)) hk)).eq (by simp only [hE, List.append_assoc] : _ = l ++ encI x)); have X1 : Hid (Ext None_ w w1) := Lib.hid (Ext.trans0 (by first | exact x0 _ _ | exact (x0 _ _).drew : Ext None_ w _) x1); have xb : Ext None_ (w.alloc (.cells #[.int .i64 x.kind, .int .i64 x.n, .int .i64 x.most, .slice A2 x.l.length c2, .string x.s, .bool x.f] 37)) w1 := (by first | exact x1 | exact Ext.trans0 ((Ext.refl _ _).drew) x1); have hcc := xb.cell CC.out (fun a => a); clear o1 x1 xb)
    | (go_at_call 40; (with_reducible refine (rwNums_any A c l A2 c2 x.l _ (R0 _ X1.out).out (L0 _ X1.out).out hxi.out (by omega)).mono ?_); rintro e w2 ⟨v2, rfl, o2, x2⟩; have O2 := Lib.hid ((OwnB.mono (ok1 := fun k => w.heap.size ≤ k) o2 (fun k _ hk => Nat.le_trans (Ext.size X1.out) hk)).eq (by simp only [hE, List.append_assoc] : _ = l ++ encI x)); have P1 := Lib.hid (OwnB.ext0 O1.out x2); have X2 : Hid (Ext None_ w w2) := Lib.hid (Ext.trans0 X1.out x2); have hcc := x2.cell hcc (fun a => a); clear o2 x2))
  go_wp2
  go_ret2
  exact ⟨_, _, rfl, P1.out, O2.out, X2.out⟩

set_option maxRecDepth 100000 in
set_option maxHeartbeats 8000000 in
theorem put3_any (A : Option Addr) (c : Nat) (l : List Int) (x : Item) (A2 : Option Addr) (c2 : Nat) (w : World) (hrow : Row w A (B8 l)) (hx : ItOk w x A2 c2) (hlen : l.length ≤ 4000) (hk : (x.kind == 1) = false ∧ (x.kind == 2) = false ∧ (x.kind == 3) = true) :
    Calls Try.prog 17 #[.slice A l.length c, x.val A2 c2] w fun e w' => ∃ v1 v2, e = .returned (.tuple #[v1, v2]) ∧ OwnB w' (fun k => w.heap.size ≤ k) v1 (l ++ encI x) ∧ OwnB w' (fun k => w.heap.size ≤ k) v2 (l ++ encI x) ∧ Ext None_ w w' := by
  have R0 : ∀ W, Ext None_ w W → Hid (Row W A (B8 l)) := fun W hh => Lib.hid (hrow.ext0 hh)
  have L0 : ∀ W, Ext None_ w W → Hid (Row W A2 (I8 x.l)) := fun W hh => Lib.hid (hx.row.ext0 hh)
  have hxi := Lib.hid hx.ints
  have hxn := Lib.hid hx.n
  have hxl := hx.len
  have hxs := hx.str
  have CC : Hid ((w.alloc (.cells #[.int .i64 x.kind, .int .i64 x.n, .int .i64 x.most, .slice A2 x.l.length c2, .string x.s, .bool x.f] 37)).cell? ⟨w.heap.size, 4, none⟩ = some (.string x.s)) := Lib.hid ((Blk.new w _ _).cell 4)
  clear hrow hx
  unfold Item.val
  obtain ⟨e1, e2, e3⟩ := hk
  have hE : encI x = enc x.s.size ++ bytesOf x.s := by
    unfold encI
    simp only [beq_iff_eq, beq_eq_false_iff_ne, ne_eq] at e1 e2 e3
    simp [e1, e2, e3]
  go_enter Try.func17, Try.ntmps17
  go_wp2
  go_region_held3 (fun W => W.cell? ⟨w.heap.size, 4, none⟩ = some (.string x.s)) (first | exact CC.out | exact hcc | (simp [*]; done)) (first
    | (go_at_call 12; (with_reducible refine (wText_any A c l x.s _ (R0 _ (by first | exact x0 _ _ | exact (x0 _ _).drew)).out (by omega) (by omega)).mono ?_); rintro e w1 ⟨v1, rfl, o1, x1⟩; have O1 := Lib.hid ((OwnB.mono (ok1 := fun k => w.heap.size ≤ k) o1 (fun k _ hk => Nat.le_trans (Ext.size (by first | exact x0 _ _ | exact (x0 _ _).drew : Ext None_ w _)) hk)).eq (by simp only [hE, List.append_assoc] : _ = l ++ encI x)); have X1 : Hid (Ext None_ w w1) := Lib.hid (Ext.trans0 (by first | exact x0 _ _ | exact (x0 _ _).drew : Ext None_ w _) x1); have xb : Ext None_ (w.alloc (.cells #[.int .i64 x.kind, .int .i64 x.n, .int .i64 x.most, .slice A2 x.l.length c2, .string x.s, .bool x.f] 37)) w1 := (by first | exact x1 | exact Ext.trans0 ((Ext.refl _ _).drew) x1); have hcc := xb.cell CC.out (fun a => a); clear o1 x1 xb)
    | (go_at_call 41; (with_reducible refine (rwText_any A c l x.s _ (R0 _ X1.out).out (by omega) (by omega)).mono ?_); rintro e w2 ⟨v2, rfl, o2, x2⟩; have O2 := Lib.hid ((OwnB.mono (ok1 := fun k => w.heap.size ≤ k) o2 (fun k _ hk => Nat.le_trans (Ext.size X1.out) hk)).eq (by simp only [hE, List.append_assoc] : _ = l ++ encI x)); have P1 := Lib.hid (OwnB.ext0 O1.out x2); have X2 : Hid (Ext None_ w w2) := Lib.hid (Ext.trans0 X1.out x2); have hcc := x2.cell hcc (fun a => a); clear o2 x2))
  go_wp2
  go_ret2
  exact ⟨_, _, rfl, P1.out, O2.out, X2.out⟩

set_option maxRecDepth 100000 in
set_option maxHeartbeats 8000000 in
theorem put4_any (A : Option Addr) (c : Nat) (l : List Int) (x : Item) (A2 : Option Addr) (c2 : Nat) (w : World) (hrow : Row w A (B8 l)) (hx : ItOk w x A2 c2) (hlen : l.length ≤ 4000) (hk : (x.kind == 1) = false ∧ (x.kind == 2) = false ∧ (x.kind == 3) = false ∧ (x.kind == 4) = true) :
    Calls Try.prog 17 #[.slice A l.length c, x.val A2 c2] w fun e w' => ∃ v1 v2, e = .returned (.tuple #[v1, v2]) ∧ OwnB w' (fun k => w.heap.size ≤ k) v1 (l ++ encI x) ∧ OwnB w' (fun k => w.heap.size ≤ k) v2 (l ++ encI x) ∧ Ext None_ w w' := by
  have R0 : ∀ W, Ext None_ w W → Hid (Row W A (B8 l)) := fun W hh => Lib.hid (hrow.ext0 hh)
  have L0 : ∀ W, Ext None_ w W → Hid (Row W A2 (I8 x.l)) := fun W hh => Lib.hid (hx.row.ext0 hh)
  have hxi := Lib.hid hx.ints
  have hxn := Lib.hid hx.n
  have hxl := hx.len
  have hxs := hx.str
  have CC : Hid ((w.alloc (.cells #[.int .i64 x.kind, .int .i64 x.n, .int .i64 x.most, .slice A2 x.l.length c2, .string x.s, .bool x.f] 37)).cell? ⟨w.heap.size, 5, none⟩ = some (.bool x.f)) := Lib.hid ((Blk.new w _ _).cell 5)
  clear hrow hx
  unfold Item.val
  obtain ⟨e1, e2, e3, e4⟩ := hk
  have hE : encI x = [if x.f = true then 1 else 0] := by
    unfold encI
    simp only [beq_iff_eq, beq_eq_false_iff_ne, ne_eq] at e1 e2 e3 e4
    simp [e1, e2, e3, e4]
  go_enter Try.func17, Try.ntmps17
  go_wp2
  go_region_held3 (fun W => W.cell? ⟨w.heap.size, 5, none⟩ = some (.bool x.f)) (first | exact CC.out | exact hcc | (simp [*]; done)) (first
    | (go_at_call 13; (with_reducible refine (wFlag_any A c l x.f _ (R0 _ (by first | exact x0 _ _ | exact (x0 _ _).drew)).out (by omega)).mono ?_); rintro e w1 ⟨v1, rfl, o1, x1⟩; have O1 := Lib.hid ((OwnB.mono (ok1 := fun k => w.heap.size ≤ k) o1 (fun k _ hk => Nat.le_trans (Ext.size (by first | exact x0 _ _ | exact (x0 _ _).drew : Ext None_ w _)) hk)).eq (by simp only [hE, List.append_assoc] : _ = l ++ encI x)); have X1 : Hid (Ext None_ w w1) := Lib.hid (Ext.trans0 (by first | exact x0 _ _ | exact (x0 _ _).drew : Ext None_ w _) x1); have xb : Ext None_ (w.alloc (.cells #[.int .i64 x.kind, .int .i64 x.n, .int .i64 x.most, .slice A2 x.l.length c2, .string x.s, .bool x.f] 37)) w1 := (by first | exact x1 | exact Ext.trans0 ((Ext.refl _ _).drew) x1); have hcc := xb.cell CC.out (fun a => a); clear o1 x1 xb)
    | (go_at_call 42; (with_reducible refine (rwFlag_any A c l x.f _ (R0 _ X1.out).out (by omega)).mono ?_); rintro e w2 ⟨v2, rfl, o2, x2⟩; have O2 := Lib.hid ((OwnB.mono (ok1 := fun k => w.heap.size ≤ k) o2 (fun k _ hk => Nat.le_trans (Ext.size X1.out) hk)).eq (by simp only [hE, List.append_assoc] : _ = l ++ encI x)); have P1 := Lib.hid (OwnB.ext0 O1.out x2); have X2 : Hid (Ext None_ w w2) := Lib.hid (Ext.trans0 X1.out x2); have hcc := x2.cell hcc (fun a => a); clear o2 x2))
  go_wp2
  go_ret2
  exact ⟨_, _, rfl, P1.out, O2.out, X2.out⟩

set_option maxRecDepth 100000 in
set_option maxHeartbeats 8000000 in
theorem put5_any (A : Option Addr) (c : Nat) (l : List Int) (x : Item) (A2 : Option Addr) (c2 : Nat) (w : World) (hrow : Row w A (B8 l)) (hx : ItOk w x A2 c2) (hlen : l.length ≤ 4000) (hk : (x.kind == 1) = false ∧ (x.kind == 2) = false ∧ (x.kind == 3) = false ∧ (x.kind == 4) = false) :
    Calls Try.prog 17 #[.slice A l.length c, x.val A2 c2] w fun e w' => ∃ v1 v2, e = .returned (.tuple #[v1, v2]) ∧ OwnB w' (fun k => w.heap.size ≤ k) v1 (l ++ encI x) ∧ OwnB w' (fun k => w.heap.size ≤ k) v2 (l ++ encI x) ∧ Ext None_ w w' := by
  have R0 : ∀ W, Ext None_ w W → Hid (Row W A (B8 l)) := fun W hh => Lib.hid (hrow.ext0 hh)
  have L0 : ∀ W, Ext None_ w W → Hid (Row W A2 (I8 x.l)) := fun W hh => Lib.hid (hx.row.ext0 hh)
  have hxi := Lib.hid hx.ints
  have hxn := Lib.hid hx.n
  have hxl := hx.len
  have hxs := hx.str
  clear hrow hx
  unfold Item.val
  obtain ⟨e1, e2, e3, e4⟩ := hk
  have hE : encI x = [] := by
    unfold encI
    simp only [beq_iff_eq, beq_eq_false_iff_ne, ne_eq] at e1 e2 e3 e4
    simp [e1, e2, e3, e4]
  go_enter Try.func17, Try.ntmps17
  have M1 : Hid (OwnB (((w.alloc (.cells #[.int .i64 x.kind, .int .i64 x.n, .int .i64 x.most, .slice A2 x.l.length c2, .string x.s, .bool x.f] 37))).alloc (.cells #[] 5)) (fun k => w.heap.size ≤ k) (.slice (some ⟨w.heap.size + 1, 0, none⟩) 0 0) []) := Lib.hid ((by simpa using made0 ((w.alloc (.cells #[.int .i64 x.kind, .int .i64 x.n, .int .i64 x.most, .slice A2 x.l.length c2, .string x.s, .bool x.f] 37))) : OwnB (((w.alloc (.cells #[.int .i64 x.kind, .int .i64 x.n, .int .i64 x.most, .slice A2 x.l.length c2, .string x.s, .bool x.f] 37))).alloc (.cells #[] 5)) (fun k => w.heap.size + 1 ≤ k) (.slice (some ⟨w.heap.size + 1, 0, none⟩) 0 0) []).mono (fun k _ h => by omega))
  go_wp2_with (first
    | (at_builtin; refine app8 rfl (.tmp 48) (.tmp 49) rfl (.slice (some ⟨w.heap.size + 1, 0, none⟩) 0 0) [] l A c rfl rfl M1.out ((R0 _ ((x0 _ _).alloc _)).out) (by simp; omega) ?_; intro v6 w6 o6 x6; have O6 := Lib.hid (OwnB.late M1.out (by simp; omega) o6); have X6 : Hid (Ext None_ w w6) := Lib.hid (ext_late M1.out (fun k h => h) ((x0 _ _).alloc _) x6); clear o6 x6)
    | (at_builtin; refine app8 rfl (.tmp 51) (.tmp 52) rfl (.slice (some ⟨w6.heap.size, 0, none⟩) 0 0) [] l A c rfl rfl (made0 _) ((R0 _ (X6.out.alloc _)).out) (by simp; omega) ?_; intro v7 w7 o7 x7; have O7 := Lib.hid (OwnB.late (made0 w6) (by simp) o7); have X7 : Hid (Ext None_ w6 w7) := Lib.hid (ext_late (made0 w6) (fun k h => h) (x0 _ _) x7); clear o7 x7))
  go_ret2
  have hE2 : ∀ q : List Int, [] ++ q = q ++ encI x := fun q => by rw [hE, List.append_nil, List.nil_append]
  exact ⟨_, _, rfl, (OwnB.ext0 O6.out X7.out).eq (hE2 l), (OwnB.mono O7.out (fun k _ h => Nat.le_trans X6.out.size h)).eq (hE2 l), X6.out.trans0 X7.out⟩

end Go.Proofs.Yteofjillmhfamaa
