/- draylaw26.call, walked, kind by kind. Written by gen_rn.py. -/
import Derived.Test.YthjabbheobpoeaaRm
import Derived.Deep.RegionHeld3
import Derived.Deep.CutBlock
set_option linter.unusedVariables false
set_option linter.unusedSimpArgs false
namespace Go.Proofs.Ythjabbheobpoeaa
open Go.RowKit B
abbrev askC (k a b n : Int) (A : Option Addr) (L c : Nat) : Array Value := #[.int .i64 k, .int .i64 a, .int .i64 b, .int .i64 n, .slice A L c]
/-- The ask's box is kept too. -/
def KB (K : Nat → Prop) (w : World) : Nat → Prop := fun k => K k ∨ k = w.heap.size
theorem TNx.box {K M C M' C' : Nat → Prop} {g h : Nat} {N N' : NS} {m : Nat} {w : World} (t : TNx K g h N N' m w M C M' C') (o : Obj) : TNx (KB K w) g h N N' m (w.alloc o) M C M' C' :=
  t.add ((x0 w o).mono (fun _ _ e => e.elim)) (fun k hk => by
    rcases hk with hk | rfl
    · exact .inl hk
    · exact .inr ⟨Nat.le_refl _, by rw [size_alloc]; omega⟩)
theorem ext_box {K : Nat → Prop} {w w1 : World} {o : Obj} (hx : Ext (fun k => ¬ KB K w k) (w.alloc o) w1) : Ext (fun k => ¬ K k) w w1 :=
  ((x0 w o).mono (fun _ _ e => e.elim)).trans hx (fun k _ e hK => e (.inl hK))
theorem box_cell {K : Nat → Prop} {w w1 : World} {cs : Array Value} {ty : TypeId} (hx : Ext (fun k => ¬ KB K w k) (w.alloc (.cells cs ty)) w1) (i : Nat) (v : Value) (hv : cs[i]? = some v) : w1.cell? ⟨w.heap.size, i, none⟩ = some v :=
  Ext.cell hx (by rw [Blk.cell (Blk.new w cs ty)]; exact hv) (fun e => e (.inr rfl))
set_option maxRecDepth 100000 in
set_option maxHeartbeats 8000000 in
theorem call7 {K : Nat → Prop} {g h : Nat} {N : NS} {m : Nat} (a b n : Int) (ha : I64 a) (hb : I64 b) (hn : I64 n) (A : Option Addr) (L c : Nat) (w : World) (t : TN K g h N N m w) : Calls Try.prog 19 #[.pointer (some ⟨g, 0, none⟩), .pointer (some ⟨h, 0, none⟩), .agg (askC 7 a b n A L c)] w fun e w' => e = .returned (.bool true) ∧ TN K g h (clearN N b) (clearN N b) (m) w' ∧ Ext (fun k => ¬ K k) w w' := by
  obtain ⟨M, C, M', C', tx⟩ := t
  have HM0 := Lib.hid (And.intro tx.2.1.clt tx.2.1.mlt)
  have HT := Lib.hid (tx.box (.cells (askC 7 a b n A L c) 47))
  clear tx
  have HC := Lib.hid (Clear_any g N M C m b hb _ HT.out.1)
  go_enter Try.func19, Try.ntmps19
  go_wp2_with (first
    | (go_at_call 33; refine HC.out.mono ?_; rintro e w1 ⟨rfl, h1⟩; obtain ⟨M1, C1, t2, x1⟩ := HT.out.left h1; have HT2 := Lib.hid t2; have HX1 := Lib.hid x1; have d0 := box_cell x1 0 _ rfl; have d1 := box_cell x1 1 _ rfl; have d2 := box_cell x1 2 _ rfl; have d3 := box_cell x1 3 _ rfl; clear h1 t2 x1 HC HT)
    | (go_at_call 34; refine (rclear_any h N M' C' b w1 HT2.out.2.1).mono ?_; rintro e w2 ⟨rfl, h1⟩; obtain ⟨M2, C2, t2, x2⟩ := HT2.out.right h1; have HT3 := Lib.hid t2; have HX2 := Lib.hid x2; clear h1 t2 x2 HT2))
  go_ret
  exact ⟨rfl, ⟨_, _, _, _, HT3.out.less (fun k hk => .inl hk)⟩, ext_box (HX1.out.trans HX2.out (fun _ _ e => e))⟩
set_option maxRecDepth 100000 in
set_option maxHeartbeats 8000000 in
theorem call5 {K : Nat → Prop} {g h : Nat} {N : NS} {m : Nat} (hm : m + 2 < maxLen) (a b n : Int) (ha : I64 a) (hb : I64 b) (hn : I64 n) (A : Option Addr) (L c : Nat) (w : World) (t : TN K g h N N m w) : Calls Try.prog 19 #[.pointer (some ⟨g, 0, none⟩), .pointer (some ⟨h, 0, none⟩), .agg (askC 5 a b n A L c)] w fun e w' => e = .returned (.bool true) ∧ TN K g h (turnN N a b 1) (turnN N a b 1) (m + 2) w' ∧ Ext (fun k => ¬ K k) w w' := by
  obtain ⟨M, C, M', C', tx⟩ := t
  have HM0 := Lib.hid (And.intro tx.2.1.clt tx.2.1.mlt)
  have HT := Lib.hid (tx.box (.cells (askC 5 a b n A L c) 47))
  clear tx
  have HC := Lib.hid (Cut_any g N M C m hm a b ha hb _ HT.out.1)
  go_enter Try.func19, Try.ntmps19
  go_wp2_with (first
    | (go_at_call 13; refine HC.out.mono ?_; rintro e w1 ⟨rfl, h0, h00⟩; have h1 := Left.same h0 h00; clear h0 h00; obtain ⟨M1, C1, t2, x1⟩ := HT.out.left h1; have HT2 := Lib.hid t2; have HX1 := Lib.hid x1; have d0 := box_cell x1 0 _ rfl; have d1 := box_cell x1 1 _ rfl; have d2 := box_cell x1 2 _ rfl; have d3 := box_cell x1 3 _ rfl; clear h1 t2 x1 HC HT)
    | (go_at_call 32; refine (rset_any h N M' C' a b 1 (by omega) w1 HT2.out.2.1).mono ?_; rintro e w2 ⟨rfl, h0, h00⟩; have h1 := RLeftN.same h0 h00; clear h0 h00; obtain ⟨M2, C2, t2, x2⟩ := HT2.out.right h1; have HT3 := Lib.hid t2; have HX2 := Lib.hid x2; clear h1 t2 x2 HT2))
  go_ret
  exact ⟨rfl, ⟨_, _, _, _, HT3.out.less (fun k hk => .inl hk)⟩, ext_box (HX1.out.trans HX2.out (fun _ _ e => e))⟩
set_option maxRecDepth 100000 in
set_option maxHeartbeats 8000000 in
theorem call6 {K : Nat → Prop} {g h : Nat} {N : NS} {m : Nat} (hm : m + 2 < maxLen) (a b n : Int) (ha : I64 a) (hb : I64 b) (hn : I64 n) (A : Option Addr) (L c : Nat) (w : World) (t : TN K g h N N m w) : Calls Try.prog 19 #[.pointer (some ⟨g, 0, none⟩), .pointer (some ⟨h, 0, none⟩), .agg (askC 6 a b n A L c)] w fun e w' => e = .returned (.bool true) ∧ TN K g h (turnN N a b 0) (turnN N a b 0) (m + 2) w' ∧ Ext (fun k => ¬ K k) w w' := by
  obtain ⟨M, C, M', C', tx⟩ := t
  have HM0 := Lib.hid (And.intro tx.2.1.clt tx.2.1.mlt)
  have HT := Lib.hid (tx.box (.cells (askC 6 a b n A L c) 47))
  clear tx
  have HC := Lib.hid (Mend_any g N M C m hm a b ha hb _ HT.out.1)
  go_enter Try.func19, Try.ntmps19
  go_wp2_with (first
    | (go_at_call 15; refine HC.out.mono ?_; rintro e w1 ⟨rfl, h0, h00⟩; have h1 := Left.same h0 h00; clear h0 h00; obtain ⟨M1, C1, t2, x1⟩ := HT.out.left h1; have HT2 := Lib.hid t2; have HX1 := Lib.hid x1; have d0 := box_cell x1 0 _ rfl; have d1 := box_cell x1 1 _ rfl; have d2 := box_cell x1 2 _ rfl; have d3 := box_cell x1 3 _ rfl; clear h1 t2 x1 HC HT)
    | (go_at_call 32; refine (rset_any h N M' C' a b 0 (by omega) w1 HT2.out.2.1).mono ?_; rintro e w2 ⟨rfl, h0, h00⟩; have h1 := RLeftN.same h0 h00; clear h0 h00; obtain ⟨M2, C2, t2, x2⟩ := HT2.out.right h1; have HT3 := Lib.hid t2; have HX2 := Lib.hid x2; clear h1 t2 x2 HT2))
  go_ret
  exact ⟨rfl, ⟨_, _, _, _, HT3.out.less (fun k hk => .inl hk)⟩, ext_box (HX1.out.trans HX2.out (fun _ _ e => e))⟩
set_option maxRecDepth 100000 in
set_option maxHeartbeats 8000000 in
theorem call2 {K : Nat → Prop} {g h : Nat} {N : NS} {m : Nat} (hm : m + 1 < maxLen) (a b n : Int) (ha : I64 a) (hb : I64 b) (hn : I64 n) (A : Option Addr) (L c : Nat) (w : World) (t : TN K g h N N m w) : Calls Try.prog 19 #[.pointer (some ⟨g, 0, none⟩), .pointer (some ⟨h, 0, none⟩), .agg (askC 2 a b n A L c)] w fun e w' => e = .returned (.bool true) ∧ TN K g h (dropN N a b n) (dropN N a b n) (m + 1) w' ∧ Ext (fun k => ¬ K k) w w' := by
  obtain ⟨M, C, M', C', tx⟩ := t
  have HM0 := Lib.hid (And.intro tx.2.1.clt tx.2.1.mlt)
  have HT := Lib.hid (tx.box (.cells (askC 2 a b n A L c) 47))
  clear tx
  have HD := Lib.hid (Deliver_any g N M C m hm a b n ha hb hn _ HT.out.1)
  have HML : Hid (∀ k, M' k → k < w.heap.size) := Lib.hid HM0.out.2
  have HCL : Hid (∀ k, C' k → k < w.heap.size) := Lib.hid HM0.out.1
  obtain ⟨⟨q, ok⟩, htw⟩ : ∃ x, x = twiceN N a b n := ⟨_, rfl⟩
  have HR := Lib.hid (fun (W : World) (M1 C1 : Nat → Prop) (hr : RNAt W M1 C1 h N) => rdeliver_any h N M1 C1 a b n hn W hr)
  rw [← htw] at HD HR
  simp only at HD HR
  clear htw
  go_enter Try.func19, Try.ntmps19
  go_wp2_with (first
    | (go_at_call 11; refine HD.out.mono ?_; rintro e w1 ⟨⟨A1, c1, rfl, ho⟩, h1⟩; obtain ⟨M1, C1, t2, x1⟩ := HT.out.left h1; have HT2 := Lib.hid (t2.box (.cells (msgC msg0 none 0) 28)); have HX1 := Lib.hid x1; have HO := Lib.hid ho; have s1 : Hid (w.heap.size < w1.heap.size) := Lib.hid (by have := x1.size; rw [size_alloc] at this; omega); clear h1 t2 HD HT ho)
    | (refine wpList_store_blk rfl 28 (.tmp 12) (.tmp 93) rfl w1.heap.size (msgC q A1 c1) rfl rfl 28 (msgC msg0 none 0) (Blk.new w1 _ _) msgSize rfl rfl ?_; intro w2 hb2 hx2; have HT3 := Lib.hid (HT2.out.write (hx2.mono (fun _ _ e => .inr e))); have HB2 := Lib.hid hb2; have HX2 : Hid (Ext None_ w1 w2) := Lib.hid (((x0 w1 _).mono (fun _ _ e => e.elim)).trans hx2 (fun r hr e => by have e : r = w1.heap.size := e; omega)); have d1 := Ext.cell HX2.out (box_cell x1 1 _ rfl) (fun e => e); have d2 := Ext.cell HX2.out (box_cell x1 2 _ rfl) (fun e => e); have d3 := Ext.cell HX2.out (box_cell x1 3 _ rfl) (fun e => e); clear hb2 hx2 HT2 x1)
    | (go_at_call 29; refine (HR.out w2 M' C' HT3.out.2.1).mono ?_; rintro e w3 ⟨⟨A2, c2, rfl, hr2, hln, _⟩, h1⟩; have hx5 : Ext M' w2 w3 := (by obtain ⟨_, _, _, h5, _⟩ := h1; exact h5); obtain ⟨M2, C2, t2, x2⟩ := HT3.out.right h1; have HT4 := Lib.hid t2; have HX3 := Lib.hid x2; have HR2 := Lib.hid hr2; have HB3 := Lib.hid (HB2.out.ext x2 (fun e => e (.inr rfl))); have HR1 : Hid (Row w3 A1 (entV q.es)) := Lib.hid (by obtain ⟨A', c', he, _, _, hrr⟩ := Own.slice HO.out; injection he with he _ _; subst he; exact rowE (Row.ext0 hrr HX2.out) hx5 (fun ad e _ e2 => by have h3 := HO.out.blk ad.block (by subst e; rfl); have h4 := HML.out _ e2; rw [size_alloc] at h3; omega)); clear h1 t2 x2 hx5 hr2 HT3 HR HB2)
    | (refine wpList_store_blk rfl 28 (.tmp 14) (.tmp 104) rfl w3.heap.size (msgC q A2 c2) rfl rfl 28 (msgC msg0 none 0) (Blk.new w3 _ _) msgSize rfl rfl ?_; intro w4 hb4 hx4; have HB4 := Lib.hid hb4; have HX4 : Hid (Ext None_ w3 w4) := Lib.hid (((x0 w3 _).mono (fun _ _ e => e.elim)).trans hx4 (fun r hr e => by have e : r = w3.heap.size := e; omega)); have HB3' := Lib.hid (HB3.out.ext HX4.out (fun a => a)); clear hb4 hx4 HB3)
    | (refine wpList_load_row rfl 28 (.tmp 12) rfl w1.heap.size rfl 28 (msgC q A1 c1) (0, 0) _ HB3'.out Try.underlying28 rfl msgSize ?_)
    | (refine wpList_load_row rfl 28 (.tmp 14) rfl w3.heap.size rfl 28 (msgC q A2 c2) (0, 0) _ HB4.out Try.underlying28 rfl msgSize ?_)
    | (go_at_call 12; refine (Message_any q A1 A2 c1 c2 w4 (Row.ext0 HR1.out HX4.out) (Row.ext0 HR2.out HX4.out) hln).mono ?_; rintro e w5 ⟨rfl, hx⟩; have HX5 := Lib.hid hx; clear hx))
  go_ret
  refine ⟨by simp, ⟨_, _, _, _, ((HT4.out.ext0 HX4.out).ext0 HX5.out).less (fun k hk => .inl (.inl hk))⟩, ?_⟩
  have hz := ((HX1.out.trans0 HX2.out).trans (HX3.out.trans0 (HX4.out.trans0 HX5.out)) (fun k _ e e2 => e (.inl e2)))
  exact ext_box hz
set_option maxRecDepth 100000 in
set_option maxHeartbeats 8000000 in
theorem call4 {K : Nat → Prop} {g h : Nat} {N : NS} {m : Nat} (hm : m + 1 < maxLen) (a b n : Int) (ha : I64 a) (hb : I64 b) (hn : I64 n) (A : Option Addr) (L c : Nat) (w : World) (t : TN K g h N N m w) : Calls Try.prog 19 #[.pointer (some ⟨g, 0, none⟩), .pointer (some ⟨h, 0, none⟩), .agg (askC 4 a b n A L c)] w fun e w' => e = .returned (.bool true) ∧ TN K g h (dropN N a b n) (dropN N a b n) (m + 1) w' ∧ Ext (fun k => ¬ K k) w w' := by
  obtain ⟨M, C, M', C', tx⟩ := t
  have HM0 := Lib.hid (And.intro tx.2.1.clt tx.2.1.mlt)
  have HT := Lib.hid (tx.box (.cells (askC 4 a b n A L c) 47))
  clear tx
  have HT1 : Hid (∀ W', Ext None_ (w.alloc (.cells (askC 4 a b n A L c) 47)) W' → TNx (KB K w) g h N N m W' M C M' C') := Lib.hid (fun W' hx => HT.out.ext0 hx)
  clear HT HM0
  have hcc : ((w.alloc (.cells (askC 4 a b n A L c) 47))).drew.cell? ⟨w.heap.size, 1, none⟩ = some (.int .i64 a) ∧ ((w.alloc (.cells (askC 4 a b n A L c) 47))).drew.cell? ⟨w.heap.size, 2, none⟩ = some (.int .i64 b) ∧ ((w.alloc (.cells (askC 4 a b n A L c) 47))).drew.cell? ⟨w.heap.size, 3, none⟩ = some (.int .i64 n) := ⟨box_cell (K := K) (Ext.refl _ _).drew 1 _ rfl, box_cell (K := K) (Ext.refl _ _).drew 2 _ rfl, box_cell (K := K) (Ext.refl _ _).drew 3 _ rfl⟩
  have HCC := Lib.hid hcc
  clear hcc
  go_enter Try.func19, Try.ntmps19
  go_upto_region 34 with fail
  go_region_held3 (fun W' => W'.cell? ⟨w.heap.size, 1, none⟩ = some (.int .i64 a) ∧ W'.cell? ⟨w.heap.size, 2, none⟩ = some (.int .i64 b) ∧ W'.cell? ⟨w.heap.size, 3, none⟩ = some (.int .i64 n)) (first | exact HDE.out | exact HDD.out | exact HCC.out) (first
    | (go_at_call 16; refine (Drop_any g N M C m hm a b n ha hb hn _ (HT1.out _ ?_).1).mono ?_; exact (Ext.refl None_ _).drew; rintro e w1 ⟨rfl, h1⟩; obtain ⟨M1, C1, t2, x1⟩ := (HT1.out _ (Ext.refl None_ _).drew).left h1; have HT2 := Lib.hid t2; have x1' : Ext (fun k => ¬ KB K w k) (w.alloc (.cells (askC 4 a b n A L c) 47)) w1 := ((Ext.refl (fun k => ¬ KB K w k) _).drew.trans x1 (fun _ _ e => e)); have HX1 := Lib.hid x1'; have HDD := Lib.hid (And.intro (box_cell x1' 1 _ rfl) (And.intro (box_cell x1' 2 _ rfl) (box_cell x1' 3 _ rfl))); clear h1 t2 x1 x1')
    | (go_at_call 31; refine (rdrop_any h N M' C' a b n hn w1 HT2.out.2.1).mono ?_; rintro e w2 ⟨rfl, h1⟩; obtain ⟨M2, C2, t3, x2⟩ := HT2.out.right h1; have HT3 := Lib.hid t3; have x2' := HX1.out.trans x2 (fun _ _ e => e); have HX2 := Lib.hid x2'; have HDE := Lib.hid (And.intro (box_cell x2' 1 _ rfl) (And.intro (box_cell x2' 2 _ rfl) (box_cell x2' 3 _ rfl))); clear h1 t3 x2 x2'))
  all_goals (go_wp2_with fail; go_ret; exact ⟨by simp, ⟨_, _, _, _, HT3.out.less (fun k hk => .inl hk)⟩, ext_box HX2.out⟩)
set_option maxRecDepth 100000 in
set_option maxHeartbeats 8000000 in
theorem call0 {K : Nat → Prop} {g h : Nat} {N : NS} {m : Nat} (k : Int) (hk : k ≠ 1 ∧ k ≠ 2 ∧ k ≠ 3 ∧ k ≠ 4 ∧ k ≠ 5 ∧ k ≠ 6 ∧ k ≠ 7) (a b n : Int) (ha : I64 a) (hb : I64 b) (hn : I64 n) (A : Option Addr) (L c : Nat) (w : World) (t : TN K g h N N m w) : Calls Try.prog 19 #[.pointer (some ⟨g, 0, none⟩), .pointer (some ⟨h, 0, none⟩), .agg (askC k a b n A L c)] w fun e w' => e = .returned (.bool true) ∧ TN K g h (N) (N) (m) w' ∧ Ext (fun k => ¬ K k) w w' := by
  obtain ⟨M, C, M', C', tx⟩ := t
  have HM0 := Lib.hid (And.intro tx.2.1.clt tx.2.1.mlt)
  have HT := Lib.hid (tx.box (.cells (askC k a b n A L c) 47))
  clear tx
  obtain ⟨h1, h2, h3, h4, h5, h6, h7⟩ := hk
  have e1 : (k == 1) = false := by simpa using h1
  have e2 : (k == 2) = false := by simpa using h2
  have e3 : (k == 3) = false := by simpa using h3
  have e4 : (k == 4) = false := by simpa using h4
  have e5 : (k == 5) = false := by simpa using h5
  have e6 : (k == 6) = false := by simpa using h6
  have e7 : (k == 7) = false := by simpa using h7
  go_enter Try.func19, Try.ntmps19
  go_wp2_with fail
  go_ret
  exact ⟨rfl, ⟨_, _, _, _, HT.out.less (fun k hk => .inl hk)⟩, ext_box (Ext.refl _ _)⟩
end Go.Proofs.Ythjabbheobpoeaa
