/- draylaw26, walked: NetRuns. -/
import Derived.Test.YthjabbheobpoeaaNk
set_option linter.unusedVariables false
set_option linter.unusedSimpArgs false
namespace Go.Proofs.Ythjabbheobpoeaa
open Go.RowKit B
def rA : Msg := mk 1 0 1 1
def rB : Msg := mk 1 0 1 2
def r0 : NS := ⟨3, fun _ _ => [], fun _ _ => 0⟩
def r1 : NS := sendN r0 [rA, rB]
def r2 : NS := dropN r1 0 1 (-1)
def r3 : NS := turnN r2 1 0 1
def r4 : NS := dropN r3 0 1 0
def r5 : NS := turnN r4 0 1 0
def r6 : NS := dropN r5 0 1 7
def r7 : NS := dropN r6 0 1 0
theorem r_w1 : r1.wait 0 1 = [rA, rB] := rfl
theorem r_t1 : twiceN r1 0 1 1 = (rB, true) := rfl
theorem r_t2 : twiceN r1 0 1 (-1) = (rB, true) := rfl
theorem r_w2 : r2.wait 0 1 = [rA] := rfl
theorem r_t3 : twiceN r3 0 1 0 = (msg0, false) := rfl
theorem r_l4 : linksN r4 = [] := rfl
theorem r_l5 : linksN r5 = [(0, 1)] := rfl
theorem r_a5 : (!decide (atN r5 0 1 7 < 0)) = true := rfl
theorem r_t6 : twiceN r6 0 1 0 = (msg0, false) := rfl
theorem i64s (n : Int) (h : -1000 ≤ n ∧ n ≤ 1000) : I64 n := by unfold I64; omega
instance (n : Int) : Decidable (I64 n) := by unfold I64; infer_instance
theorem ln_s2 (w w1 : World) (g : Nat) (h : LN w [] g r0 0 w1) : Calls Try.prog 8 #[.pointer (some ⟨g, 0, none⟩), .slice (some ⟨w1.heap.size + 1 + 1, 0, none⟩) 2 2] (((w1.alloc (.cells (msgC rA none 0) 28)).alloc (.cells (msgC rB none 0) 28)).alloc (.cells ⟨(msgC rA none 0).toList ++ (msgC rB none 0).toList⟩ 28)) fun e w' => e = .returned (.tuple #[]) ∧ LN w [w1.heap.size + 1] g r1 2 w' ∧ Blk w' (w1.heap.size + 1) (msgC rB none 0) 28 := by
  obtain ⟨wa, hwa⟩ : ∃ x, x = w1.alloc (.cells (msgC rA none 0) 28) := ⟨_, rfl⟩
  have ha : wa.heap.size = w1.heap.size + 1 := by rw [hwa, size_alloc]
  rw [← hwa, ← ha]
  have h1 : LN w [] g r0 0 wa := h.ext0 (by rw [hwa]; exact x0 _ _)
  obtain ⟨wb, hwb⟩ : ∃ x, x = wa.alloc (.cells (msgC rB none 0) 28) := ⟨_, rfl⟩
  have hb : wb.heap.size = wa.heap.size + 1 := by rw [hwb, size_alloc]
  have hB : Blk wb wa.heap.size (msgC rB none 0) 28 := by rw [hwb]; exact Blk.new _ _ _
  rw [← hwb, ← hb]
  have h2 : LN w [wa.heap.size] g r0 0 wb := h1.add (by rw [hwb]; exact x0 _ _) (Nat.le_refl _) (by omega)
  have h3 : LN w [wb.heap.size, wa.heap.size] g r0 0 (wb.alloc (.cells ⟨(msgC rA none 0).toList ++ (msgC rB none 0).toList⟩ 28)) := h2.add (x0 _ _) (Nat.le_refl _) (by rw [size_alloc]; omega)
  refine (ln_sendk h3 wb.heap.size 2 [rA, rB] (by decide) (by decide) (Blk.row (Blk.new wb _ _)) (by simp) (fun q hq => ?_)).mono fun e w' ⟨h1, h4, h5⟩ => ⟨h1, h4.less (by simp), (hB.alloc _).ext h5 (fun e => e (by simp))⟩
  rcases (by simpa using hq : q = rA ∨ q = rB) with rfl | rfl
  · exact ⟨by decide, by decide, rfl⟩
  · exact ⟨by decide, by decide, rfl⟩
/-- A guarded load of a whole struct, as the walk leaves it. -/
theorem wpList_load_mid_g {P : Program} {ops : Array Oper} {rest : List Oper} {op : Oper} {a : Act} {w : World} {Q : Exit → Act → World → Prop} (hw : Region.wanted op (yielded ops a.tmps) = true) (ty : TypeId) (x : Operand) (ho : op.op = .load ty x)
    (b o : Nat) (hx : a.eval x = .pointer (some ⟨b, o, none⟩)) (cs : List Value) (d : TypeDesc) (hc : w.rangeAt b o cs)
    (hu : P.underlying ty = some d) (hd : d.isRow = true) (hi : (P.info? ty).map (·.size) = some cs.length)
    (h : wpList P ops Q rest (a.put op.dst (.agg cs.toArray)) w) : wpList P ops Q (op :: rest) a w := by
  refine wpList_step fun K hK => ?_
  rw [if_pos hw]
  exact wp_load_mid ty x ho b o hx cs d hc hu hd hi (hK _ _ h)
theorem link_eq (a c a' c' : Int) (ha : I64 a) (hc : I64 c) (ha' : I64 a') (hc' : I64 c') (w : World) : (Op.equal 38 (kv a c) (kv a' c')).run Try.prog w = .ok (decide (a = a' ∧ c = c')) w := by
  obtain ⟨r, hr, hiff⟩ := run_equal_deep w (m := 2) (by omega) (k := 38) (by kernel_rfl) lkWide (lk_eq ha hc) (lk_eq ha' hc')
  rw [hr]
  congr 1
  by_cases h : a = a' ∧ c = c'
  · rw [decide_eq_true h]
    obtain ⟨rfl, rfl⟩ := h
    exact hiff.2 rfl
  · rw [decide_eq_false h]
    cases r
    · rfl
    · exact absurd (hiff.1 rfl) (lk_ne ha hc ha' hc' h)
theorem wpList_eql_g {ops : Array Oper} {rest : List Oper} {op : Oper} {a : Act} {w : World} {Q : Exit → Act → World → Prop} (hw : Region.wanted op (yielded ops a.tmps) = true) (x y : Operand) {t2 : TypeId} (ho : op.op = .binOp .eql 38 x y t2) (a1 c1 a2 c2 : Int) (h1 : I64 a1) (h2 : I64 c1) (h3 : I64 a2) (h4 : I64 c2) (hx : a.eval x = .agg #[.int .i64 a1, .int .i64 c1]) (hy : a.eval y = .agg #[.int .i64 a2, .int .i64 c2])
    (h : wpList Try.prog ops Q rest (a.put op.dst (.bool (decide (a1 = a2 ∧ c1 = c2)))) w) : wpList Try.prog ops Q (op :: rest) a w := by
  refine wpList_step fun K hK => ?_
  rw [if_pos hw]
  refine opBin (p := fun v w' => v = .bool (decide (a1 = a2 ∧ c1 = c2)) ∧ w' = w) (fun v w' hp _ => by obtain ⟨rfl, rfl⟩ := hp; exact hK _ _ h) ho hx hy (by simp [eqGuard]) (v := .bool (decide (a1 = a2 ∧ c1 = c2))) ?_ ⟨rfl, rfl⟩
  have := link_eq a1 c1 a2 c2 h1 h2 h3 h4 w
  simp only [kv] at this
  simp [binOp, this]
theorem range_ext {S : Nat → Prop} {w w' : World} {b off : Nat} {cs : List Value} (h : w.rangeAt b off cs) (hx : Ext S w w') (hn : ¬ S b) : w'.rangeAt b off cs := fun j v hj => Ext.cell hx (h j v hj) hn
theorem link1 {w wr : World} {A : Option Addr} {c : Nat} (h : LinkO w wr (.slice A 1 c) [(0, 1)]) : ∃ b, A = some ⟨b, 0, none⟩ ∧ w.heap.size ≤ b ∧ b < wr.heap.size ∧ wr.rangeAt b 0 [.int .i64 0, .int .i64 1] := by
  obtain ⟨A', c', he, _, _, hr⟩ := Own.slice h
  injection he with he _ _
  subst he
  rcases h.own.2 with ⟨e, _⟩ | ⟨b, cap, cur, e, _⟩
  · cases e
  · injection e with e _ _
    subst e
    refine ⟨b, rfl, h.blk b rfl, h.lt b rfl, fun j v hj => ?_⟩
    obtain ⟨ad, e, hc⟩ := hr j v hj
    cases e
    rw [add_plain] at hc
    simpa using hc
set_option maxRecDepth 100000 in
set_option maxHeartbeats 16000000 in
theorem NetRuns_any (w : World) : Calls Try.prog 3 #[] w fun e w' => e = .returned (.bool true) ∧ Ext None_ w w' := by
  go_enter Try.func3, Try.ntmps3
  have K0 : Hid True := Lib.hid trivial
  have K1 : Hid True := Lib.hid trivial
  go_wp2_with (first
    | (go_at_call 7; have _k := K0.out; clear _k K0; refine (ln_new 3 w (by decide) (by decide)).mono ?_; rintro e w1 ⟨g, rfl, h1⟩; have H0 := Lib.hid h1; clear h1)
    | (go_at_call 8; refine (ln_s2 w w1 g H0.out).mono ?_; rintro e w2 ⟨rfl, h1, h2⟩; have H1 := Lib.hid h1; have HB4 := Lib.hid h2; clear h1 h2)
    | (go_at_call 9; refine (ln_waiting H1.out 0 1 (by decide) (by decide)).mono ?_; rintro e w2' ⟨rfl, rfl⟩; rw [r_w1])
    | (go_at_call 10; refine (ln_twice H1.out 0 1 1 (by decide) (by decide) (by decide)).mono ?_; rintro e w3 ⟨⟨A1, c1, he⟩, hx⟩; rw [r_t1] at he; subst he; have X3 := Lib.hid hx; clear hx)
    | (go_at_call 11; refine (ln_deliver (ps := [w3.heap.size, w1.heap.size + 1]) ((H1.out.ext0 X3.out).add (x0 w3 (.cells (msgC rB A1 c1) 28)) (Nat.le_refl _) (by rw [size_alloc]; omega)) (by decide) 0 1 (-1) (by decide) (by decide) (by decide)).mono ?_; rintro e w4 ⟨⟨A2, c2, he⟩, h1, hx⟩; rw [r_t2] at he; subst he; have H2 : Hid (LN w [w3.heap.size, w1.heap.size + 1] g r2 3 w4) := Lib.hid h1; have HB6 := Lib.hid ((Blk.new w3 (msgC rB A1 c1) 28).ext hx (fun e => e (by simp))); have HB4b := Lib.hid (((HB4.out.ext X3.out (fun a => a)).alloc (.cells (msgC rB A1 c1) 28)).ext hx (fun e => e (by simp))); clear h1 hx H1 HB4 X3)
    | (refine wpList_load_mid_g (by rfl) 28 (.tmp 6) rfl w3.heap.size 0 rfl (msgC rB A1 c1).toList _ (blk_range (HB6.out.alloc _)) Try.underlying28 rfl msgSize ?_)
    | (refine wpList_load_mid_g (by rfl) 28 (.tmp 4) rfl (w1.heap.size + 1) 0 rfl (msgC rB none 0).toList _ (blk_range (HB4b.out.alloc _)) Try.underlying28 rfl msgSize ?_)
    | (go_at_call 12; have _k := H2.out; clear _k; refine (Message_nil rB rfl A1 none c1 0 (w4.alloc (.cells (msgC rB A2 c2) 28))).mono ?_; rintro e w5 ⟨rfl, hx⟩; have H3 := Lib.hid ((H2.out.ext0 (x0 w4 _)).ext0 hx); have HB8 := Lib.hid ((Blk.new w4 (msgC rB A2 c2) 28).ext hx (fun a => a)); have HB4c := Lib.hid ((HB4b.out.alloc _).ext hx (fun a => a)); clear hx H2 HB6 HB4b)
    | (refine wpList_load_mid_g (by rfl) 28 (.tmp 8) rfl w4.heap.size 0 rfl (msgC rB A2 c2).toList _ (blk_range HB8.out) Try.underlying28 rfl msgSize ?_)
    | (refine wpList_load_mid_g (by rfl) 28 (.tmp 4) rfl (w1.heap.size + 1) 0 rfl (msgC rB none 0).toList _ (blk_range HB4c.out) Try.underlying28 rfl msgSize ?_)
    | (go_at_call 12; have _k := H3.out; clear _k; refine (Message_nil rB rfl A2 none c2 0 w5).mono ?_; rintro e w6 ⟨rfl, hx⟩; have H4 := Lib.hid ((H3.out.ext0 hx).less (qs := []) (by simp)); clear hx H3 HB8 HB4c)
    | (go_at_call 9; refine (ln_waiting H4.out 0 1 (by decide) (by decide)).mono ?_; rintro e w6' ⟨rfl, rfl⟩; rw [r_w2])
    | (go_at_call 13; refine (ln_cut H4.out (by decide) 1 0 (by decide) (by decide)).mono ?_; rintro e w7 ⟨rfl, h1, hx⟩; have H5 : Hid (LN w [] g r3 5 w7) := Lib.hid h1; clear h1 hx H4)
    | (go_at_call 11; refine (ln_deliver H5.out (by decide) 0 1 0 (by decide) (by decide) (by decide)).mono ?_; rintro e w8 ⟨⟨A3, c3, he⟩, h1, hx⟩; rw [r_t3] at he; subst he; have H6 : Hid (LN w [] g r4 6 w8) := Lib.hid h1; clear h1 hx H5)
    | (go_at_call 14; refine (ln_links (H6.out.ext0 (x0 w8 (.cells (msgC msg0 A3 c3) 28)))).mono ?_; rintro e w9 ⟨A4, c4, he, _, hx⟩; rw [r_l4] at he; subst he; have H7 := Lib.hid ((H6.out.ext0 (x0 w8 _)).ext0 hx); clear hx H6)
    | (go_at_call 15; refine (ln_mend H7.out (by decide) 0 1 (by decide) (by decide)).mono ?_; rintro e w10 ⟨rfl, h1, hx⟩; have H8 : Hid (LN w [] g r5 8 w10) := Lib.hid h1; clear h1 hx H7)
    | (go_at_call 14; refine (ln_links H8.out).mono ?_; rintro e w11 ⟨A5, c5, he, hl, hx⟩; rw [r_l5] at he hl; subst he; obtain ⟨b5, rfl, hb5, hb6, hr5⟩ := link1 hl; have H9 := Lib.hid (H8.out.add hx hb5 hb6); have HR5 := Lib.hid hr5; clear hx hl hb5 hb6 hr5 H8)
    | (go_at_call 16; refine (ln_drop H9.out (by decide) 0 1 7 (by decide) (by decide) (by decide)).mono ?_; rintro e w12 ⟨he, h1, hx⟩; rw [r_a5] at he; subst he; have H10 : Hid (LN w [b5] g r6 9 w12) := Lib.hid h1; have HR6 := Lib.hid (range_ext HR5.out hx (fun e => e (by simp))); clear h1 hx H9 HR5)
    | (go_at_call 11; refine (ln_deliver H10.out (by decide) 0 1 0 (by decide) (by decide) (by decide)).mono ?_; rintro e w13 ⟨⟨A6, c6, he⟩, h1, hx⟩; rw [r_t6] at he; subst he; have H11 : Hid (LN w [b5] g r7 10 w13) := Lib.hid h1; have HR7 := Lib.hid (range_ext HR6.out hx (fun e => e (by simp))); clear h1 hx H10 HR6)
    | (go_at_call 7; have _k := K1.out; clear _k K1; refine (New_bad 1 _ (by decide)).mono ?_; rintro e w14 ⟨rfl, rfl⟩)
    | (go_at_call 7; refine (New_bad 8 _ (by decide)).mono ?_; rintro e w15 ⟨rfl, rfl⟩)
    | (refine wpList_load_mid_g (by rfl) 38 (.tmp 119) rfl b5 0 rfl [.int .i64 0, .int .i64 1] _ (range_ext HR7.out (x0 w13 _) (fun a => a)) Try.underlying38 rfl keySize ?_)
    | (refine wpList_eql_g (by rfl) (.tmp 120) (.tmp 121) rfl 0 1 0 1 (by decide) (by decide) (by decide) (by decide) rfl rfl ?_))
  go_ret
  exact ⟨rfl, by obtain ⟨M, C, h1, h2, _⟩ := H11.out; exact h2.trans0 (x0 _ _)⟩
end Go.Proofs.Ythjabbheobpoeaa
