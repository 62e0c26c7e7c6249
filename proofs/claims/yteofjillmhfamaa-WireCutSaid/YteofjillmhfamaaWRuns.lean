/- Chapter 3's statements, walked: the closed sentence. -/
import Derived.Test.YteofjillmhfamaaBook
set_option linter.unusedVariables false
set_option linter.unusedSimpArgs false
namespace Go.Proofs.Yteofjillmhfamaa
open Go.RowKit B

theorem ext_g {w w1 w2 : World} {g : Nat} (hx : Ext None_ w w1) (hg : w.heap.size ≤ g) (h2 : Ext (fun k => k = g) w1 w2) : Ext None_ w w2 := hx.trans h2 (fun k hk e => by omega)
set_option maxRecDepth 100000 in
set_option maxHeartbeats 1000000 in
theorem numberL_any (A : Option Addr) (c : Nat) (l : List Int) (n e : Int) (s' : RS) (w : World) (hrow : Row w A (B8 l)) (hb : Byt l) (hlen : l.length ≤ 225000000000000) (hN : NumR l ⟨0, 0, 0⟩ = (n, s')) (hfe : s'.fe = e) (hfa : s'.fa = 0) :
    Calls Try.prog 14 #[.slice A l.length c, .int .i64 n, .int .i64 e] w fun e' w' => e' = .returned (.bool true) ∧ Ext None_ w w' := by
  have HROW := Lib.hid hrow
  have HN := Lib.hid hN
  have HFA := Lib.hid hfa
  subst hfe
  clear hrow hN
  obtain ⟨pos, fa, fe⟩ := s'
  simp only at *
  subst hfa
  by_cases he : fe = 0
  all_goals
    first | have hb1 := eqT he | have hb1 := eqF he
    clear he
    go_enter Try.func14, Try.ntmps14
    go_wp2_with (first
      | (go_at_call 19; refine (Read_any A c l _ HROW.out hb hlen).mono ?_; rintro e w1 ⟨g, b, rfl, hr1, hg, hb', hx1⟩; have HR1 := Lib.hid hr1; have HX1 := Lib.hid hx1; clear hr1 hx1)
      | (go_at_call 35; refine (Num_any g b l _ _ HR1.out).mono ?_; rw [HN.out]; rintro e w2 ⟨rfl, hr2, hx2⟩; have HR2 := Lib.hid hr2; obtain ⟨A2, cc2, ⟨e0, e1, e2, e3⟩, ef, _⟩ := hr2.cells; have HX2 := Lib.hid (ext_g HX1.out hg hx2); clear hr2 hx2)
      | (go_at_call 32; refine (err_any _ _ _).mono ?_; rintro e w3 ⟨rfl, hx3⟩; have HX3 := Lib.hid (HX2.out.trans0 hx3); have f0 := hx3.cell e0 (fun a => a); have f1 := hx3.cell e1 (fun a => a); clear hx3)
      | (go_at_call 30; refine (where_any _ _ _).mono ?_; rintro e w4 ⟨rfl, hx4⟩; have HX4 := Lib.hid (HX3.out.trans0 hx4); have g0 := hx4.cell f0 (fun a => a); have g1 := hx4.cell f1 (fun a => a); clear hx4)
      | (go_at_call 28; refine (good_any _ _ _ _ hb1).mono ?_; rintro e w5 ⟨rfl, hx5⟩; have HX5 := Lib.hid (HX4.out.trans0 hx5); clear hx5))
    go_ret
    exact ⟨by simp, HX5.out⟩

instance (l : List Int) : Decidable (Byt l) := inferInstanceAs (Decidable (∀ x ∈ l, 0 ≤ x ∧ x < 256))
theorem Read_lit (l : List Int) (w0 w : World) (hx : Ext None_ w0 w) (hb : Byt l) (hlen : l.length ≤ 225000000000000) :
    Calls Try.prog 19 #[.slice (some ⟨w.heap.size, 0, none⟩) l.length l.length] (w.alloc (.cells (B8 l).toArray 5)) fun e w' => ∃ g b, e = .returned (.pointer (some ⟨g, 0, none⟩)) ∧ Rd w' g b l ⟨0, 0, 0⟩ ∧ w.heap.size ≤ g ∧ w.heap.size ≤ b ∧ Ext None_ w w' ∧ Ext None_ w0 w' :=
  (Read_any _ _ l _ (Blk.new _ _ _).row hb hlen).mono fun e w' ⟨g, b, h1, h2, h3, h4, h5⟩ => ⟨g, b, h1, h2, by simp at h3; omega, by simp at h4; omega, ((Ext.refl None_ w).alloc _).trans0 h5, (hx.alloc _).trans0 h5⟩
set_option maxRecDepth 100000 in
set_option maxHeartbeats 4000000 in
theorem rest_any (w : World) : Calls Try.prog 15 #[] w fun e' w' => e' = .returned (.bool true) ∧ Ext None_ w w' := by
  go_enter Try.func15, Try.ntmps15
  go_wp2_with fail
  refine (Read_lit [1, 12] w w (Ext.refl _ _) (by decide) (by decide)).mono ?_
  rintro e w1 ⟨g1, b1, rfl, r1, hg1, hb1, _, x1⟩
  have R1 := Lib.hid r1
  have L1 := Lib.hid r1.lt
  have X := Lib.hid x1
  clear r1 x1
  go_wp2_with fail
  refine (Read_lit [6, 97, 98] w w1 X.out (by decide) (by decide)).mono ?_
  rintro e w2 ⟨g2, b2, rfl, r2, hg2, hb2, x1, x2⟩
  have R2 := Lib.hid r2
  have L2 := Lib.hid r2.lt
  replace R1 := Lib.hid (R1.out.ext0 x1)
  replace X := Lib.hid x2
  clear r2 x1 x2
  go_wp2_with fail
  refine (Read_lit [0] w w2 X.out (by decide) (by decide)).mono ?_
  rintro e w3 ⟨g3, b3, rfl, r3, hg3, hb3, x1, x2⟩
  have R3 := Lib.hid r3
  have L3 := Lib.hid r3.lt
  replace R1 := Lib.hid (R1.out.ext0 x1)
  replace R2 := Lib.hid (R2.out.ext0 x1)
  replace X := Lib.hid x2
  have N12 : g1 ≠ g2 ∧ g1 ≠ b2 ∧ g1 ≠ g3 ∧ g1 ≠ b3 ∧ g2 ≠ g3 ∧ g2 ≠ b3 ∧ g2 ≠ b1 ∧ g3 ≠ b2 ∧ g3 ≠ b1 := by
    have := L1.out; have := L2.out; have := L3.out
    omega
  have NN := Lib.hid N12
  clear r3 x1 x2 N12
  have W1 : w.heap.size ≤ g1 := hg1
  have W2 : w.heap.size ≤ g2 := by have := L1.out; omega
  have W3 : w.heap.size ≤ g3 := by have := L2.out; omega
  clear hg1 hg2 hg3 hb1 hb2 hb3
  go_wp2_with fail
  refine (Flag_any g1 b1 _ _ _ R1.out).mono ?_
  rw [show FlagR [1, 12] ⟨0, 0, 0⟩ = (true, ⟨1, 0, 0⟩) from by decide]
  rintro e w4 ⟨rfl, r, x⟩
  replace R1 := Lib.hid r
  replace R2 := Lib.hid (R2.out.ext x NN.out.1.symm NN.out.2.1.symm)
  replace R3 := Lib.hid (R3.out.ext x NN.out.2.2.1.symm NN.out.2.2.2.1.symm)
  replace X := Lib.hid (ext_g X.out W1 x)
  clear r x
  obtain ⟨_, _, ⟨c0, c1, _, _⟩, _⟩ := R1.out.cells
  clear c0 c1
  go_wp2_with fail
  refine (Count_any g1 b1 _ _ 5 _ R1.out).mono ?_
  rw [show CountR [1, 12] 5 ⟨1, 0, 0⟩ = (0, ⟨1, 1, 2⟩) from by decide]
  rintro e w5 ⟨rfl, r, x⟩
  replace R1 := Lib.hid r
  replace R2 := Lib.hid (R2.out.ext x NN.out.1.symm NN.out.2.1.symm)
  replace R3 := Lib.hid (R3.out.ext x NN.out.2.2.1.symm NN.out.2.2.2.1.symm)
  replace X := Lib.hid (ext_g X.out W1 x)
  clear r x
  obtain ⟨_, _, ⟨c0, c1, _, _⟩, _⟩ := R1.out.cells
  go_wp2_with fail
  refine (err_any _ _ _).mono ?_
  rintro e w6 ⟨rfl, x⟩
  clear c0 c1
  replace R1 := Lib.hid (R1.out.ext0 x)
  replace R2 := Lib.hid (R2.out.ext0 x)
  replace R3 := Lib.hid (R3.out.ext0 x)
  replace X := Lib.hid (X.out.trans0 x)
  clear x
  obtain ⟨_, _, ⟨c0, c1, _, _⟩, _⟩ := R1.out.cells
  go_wp2_with fail
  refine (where_any _ _ _).mono ?_
  rintro e w7 ⟨rfl, x⟩
  clear c0 c1
  replace R1 := Lib.hid (R1.out.ext0 x)
  replace R2 := Lib.hid (R2.out.ext0 x)
  replace R3 := Lib.hid (R3.out.ext0 x)
  replace X := Lib.hid (X.out.trans0 x)
  clear x
  go_wp2_with fail
  refine (Text_any g2 b2 _ _ 9 _ R2.out).mono ?_
  rw [show TextR [6, 97, 98] 9 ⟨0, 0, 0⟩ = ([], ⟨0, 0, 3⟩) from by decide, show strOfNums (([] : List Int), (⟨0, 0, 3⟩ : RS)).1 = ⟨#[]⟩ from rfl]
  rintro e w8 ⟨rfl, r, x⟩
  replace R1 := Lib.hid (R1.out.ext x NN.out.1 NN.out.2.2.2.2.2.2.1.symm)
  replace R2 := Lib.hid r
  replace R3 := Lib.hid (R3.out.ext x NN.out.2.2.2.2.1.symm NN.out.2.2.2.2.2.1.symm)
  replace X := Lib.hid (ext_g X.out W2 x)
  clear r x
  obtain ⟨_, _, ⟨c0, c1, _, _⟩, _⟩ := R2.out.cells
  go_wp2_with fail
  refine (err_any _ _ _).mono ?_
  rintro e w9 ⟨rfl, x⟩
  clear c0 c1
  replace R1 := Lib.hid (R1.out.ext0 x)
  replace R2 := Lib.hid (R2.out.ext0 x)
  replace R3 := Lib.hid (R3.out.ext0 x)
  replace X := Lib.hid (X.out.trans0 x)
  clear x
  obtain ⟨_, _, ⟨c0, c1, _, _⟩, _⟩ := R2.out.cells
  go_wp2_with fail
  refine (where_any _ _ _).mono ?_
  rintro e w10 ⟨rfl, x⟩
  clear c0 c1
  replace R1 := Lib.hid (R1.out.ext0 x)
  replace R2 := Lib.hid (R2.out.ext0 x)
  replace R3 := Lib.hid (R3.out.ext0 x)
  replace X := Lib.hid (X.out.trans0 x)
  clear x
  go_wp2_with fail
  refine (End_any g3 b3 _ _ _ R3.out).mono ?_
  rw [show EndR [0] ⟨0, 0, 0⟩ = ⟨0, 0, 5⟩ from by decide]
  rintro e w11 ⟨rfl, r, x⟩
  replace R1 := Lib.hid (R1.out.ext x NN.out.2.2.1 NN.out.2.2.2.2.2.2.2.2.symm)
  replace R2 := Lib.hid (R2.out.ext x NN.out.2.2.2.2.1 NN.out.2.2.2.2.2.2.2.1.symm)
  replace R3 := Lib.hid r
  replace X := Lib.hid (ext_g X.out W3 x)
  clear r x
  obtain ⟨_, _, ⟨c0, c1, _, _⟩, _⟩ := R3.out.cells
  go_wp2_with fail
  refine (err_any _ _ _).mono ?_
  rintro e w12 ⟨rfl, x⟩
  clear c0 c1
  replace R1 := Lib.hid (R1.out.ext0 x)
  replace R2 := Lib.hid (R2.out.ext0 x)
  replace R3 := Lib.hid (R3.out.ext0 x)
  replace X := Lib.hid (X.out.trans0 x)
  clear x
  obtain ⟨_, _, ⟨c0, c1, _, _⟩, _⟩ := R3.out.cells
  go_wp2_with fail
  refine (where_any _ _ _).mono ?_
  rintro e w13 ⟨rfl, x⟩
  clear c0 c1
  replace R1 := Lib.hid (R1.out.ext0 x)
  replace R2 := Lib.hid (R2.out.ext0 x)
  replace R3 := Lib.hid (R3.out.ext0 x)
  replace X := Lib.hid (X.out.trans0 x)
  clear x
  go_wp2_with fail
  go_ret
  exact ⟨rfl, X.out⟩

theorem numLit (n : Int) (l : List Int) (w0 w : World) (hx : Ext None_ w0 w) (hn : I64 n) (hl : enc n = l) :
    Calls Try.prog 10 #[.slice none 0 0, .int .i64 n] w fun e w' => ∃ A c, e = .returned (.slice A l.length c) ∧ Row w' A (B8 l) ∧ Ext None_ w w' ∧ Ext None_ w0 w' :=
  (wNum_any none 0 [] n w hn (Row.nil _ _) (by decide)).mono fun e w' ⟨v, h1, h2, h3⟩ => by
    rw [List.nil_append, hl] at h2
    obtain ⟨A, c, rfl, _, _, hr⟩ := Own.slice h2
    exact ⟨A, c, h1, hr, h3, hx.trans0 h3⟩
theorem sameLit (A : Option Addr) (c : Nat) (l : List Int) (w0 w : World) (hx : Ext None_ w0 w) (h1 : Row w A (B8 l)) (hl : l.length ≤ 225000000000000) :
    Calls Try.prog 9 #[.slice A l.length c, .slice (some ⟨w.heap.size, 0, none⟩) l.length l.length] (w.alloc (.cells (B8 l).toArray 5)) fun e w' => e = .returned (.bool true) ∧ Ext None_ w0 w' :=
  (same_any A c l _ _ l _ (h1.ext0 ((Ext.refl _ _).alloc _)) (Blk.new _ _ _).row hl hl).mono fun e w' ⟨h1, h2⟩ => ⟨by rw [h1]; simp, (hx.alloc _).trans0 h2⟩
theorem numberLit (l : List Int) (n e : Int) (s' : RS) (w0 w : World) (hx : Ext None_ w0 w) (hb : Byt l) (hlen : l.length ≤ 225000000000000) (hN : NumR l ⟨0, 0, 0⟩ = (n, s')) (hfe : s'.fe = e) (hfa : s'.fa = 0) :
    Calls Try.prog 14 #[.slice (some ⟨w.heap.size, 0, none⟩) l.length l.length, .int .i64 n, .int .i64 e] (w.alloc (.cells (B8 l).toArray 5)) fun e' w' => e' = .returned (.bool true) ∧ Ext None_ w0 w' :=
  (numberL_any _ _ l n e s' _ (Blk.new _ _ _).row hb hlen hN hfe hfa).mono fun e w' ⟨h1, h2⟩ => ⟨h1, (hx.alloc _).trans0 h2⟩
theorem numsLit (l ns m : List Int) (w0 w : World) (hx : Ext None_ w0 w) (hns : ∀ n ∈ ns, I64 n) (hlen : l.length + 10 + 10 * ns.length ≤ 225000000000000) (hm : l ++ enc ns.length ++ encs ns = m) :
    Calls Try.prog 11 #[.slice (some ⟨w.heap.size, 0, none⟩) l.length l.length, .slice (some ⟨w.heap.size + 1, 0, none⟩) ns.length ns.length] ((w.alloc (.cells (B8 l).toArray 5)).alloc (.cells (I8 ns).toArray 3)) fun e w' => ∃ A c, e = .returned (.slice A m.length c) ∧ Row w' A (B8 m) ∧ Ext None_ w0 w' := by
  have h1 : Row ((w.alloc (.cells (B8 l).toArray 5)).alloc (.cells (I8 ns).toArray 3)) (some ⟨w.heap.size, 0, none⟩) (B8 l) := (Blk.new w (B8 l).toArray 5).row.ext0 ((Ext.refl _ _).alloc _)
  have h2 : Row ((w.alloc (.cells (B8 l).toArray 5)).alloc (.cells (I8 ns).toArray 3)) (some ⟨w.heap.size + 1, 0, none⟩) (I8 ns) := by
    have := (Blk.new (w.alloc (.cells (B8 l).toArray 5)) (I8 ns).toArray 3).row
    simpa using this
  refine (wNums_any _ _ l _ _ ns _ h1 h2 hns hlen).mono ?_
  rintro e w' ⟨v, rfl, o, x⟩
  rw [hm] at o
  obtain ⟨A, c, rfl, _, _, r⟩ := Own.slice o
  exact ⟨A, c, rfl, r, ((hx.alloc _).alloc _).trans0 x⟩
theorem textLit (s : ByteArray) (m : List Int) (w0 w : World) (hx : Ext None_ w0 w) (hs : s.size ≤ 1000) (hm : enc s.size ++ bytesOf s = m) :
    Calls Try.prog 12 #[.slice none 0 0, .string s] w fun e w' => ∃ A c, e = .returned (.slice A m.length c) ∧ Row w' A (B8 m) ∧ Ext None_ w0 w' := by
  refine (wText_any none 0 [] s w (Row.nil _ _) (by omega) (by simp; omega)).mono ?_
  rintro e w' ⟨v, rfl, o, x⟩
  rw [List.nil_append, hm] at o
  obtain ⟨A, c, rfl, _, _, r⟩ := Own.slice o
  exact ⟨A, c, rfl, r, hx.trans0 x⟩
theorem flagLit (l m : List Int) (w0 w : World) (hx : Ext None_ w0 w) (hlen : l.length + 10 ≤ 225000000000000) (hm : l ++ [1] = m) :
    Calls Try.prog 13 #[.slice (some ⟨w.heap.size, 0, none⟩) l.length l.length, .bool true] (w.alloc (.cells (B8 l).toArray 5)) fun e w' => ∃ A c, e = .returned (.slice A m.length c) ∧ Row w' A (B8 m) ∧ Ext None_ w0 w' := by
  refine (wFlag_any _ _ l true _ (Blk.new w (B8 l).toArray 5).row hlen).mono ?_
  rintro e w' ⟨v, rfl, o, x⟩
  rw [if_pos rfl, hm] at o
  obtain ⟨A, c, rfl, _, _, r⟩ := Own.slice o
  exact ⟨A, c, rfl, r, (hx.alloc _).trans0 x⟩
set_option maxRecDepth 100000 in
set_option maxHeartbeats 4000000 in
theorem wireRuns_any (w : World) : Calls Try.prog 3 #[] w fun e' w' => e' = .returned (.bool true) ∧ Ext None_ w w' := by
  go_enter Try.func3, Try.ntmps3
  have X := Lib.hid (Ext.refl None_ w)
  go_wp2_with fail
  refine (numLit 0 [0] w _ X.out (by simp [I64]) (by decide)).mono ?_
  rintro e w0 ⟨A0, k0, rfl, r, _, x⟩
  replace X := Lib.hid x
  have R := Lib.hid r
  clear r x
  go_wp2_with fail
  refine (sameLit A0 k0 [0] w _ X.out R.out (by decide)).mono ?_
  rintro e v0 ⟨rfl, x⟩
  replace X := Lib.hid x
  clear x
  go_wp2_with fail
  refine (numLit (-1) [1] w _ X.out (by simp [I64]) (by decide)).mono ?_
  rintro e w1 ⟨A1, k1, rfl, r, _, x⟩
  replace X := Lib.hid x
  have R := Lib.hid r
  clear r x
  go_wp2_with fail
  refine (sameLit A1 k1 [1] w _ X.out R.out (by decide)).mono ?_
  rintro e v1 ⟨rfl, x⟩
  replace X := Lib.hid x
  clear x
  go_wp2_with fail
  refine (numLit 64 [128, 1] w _ X.out (by simp [I64]) (by decide)).mono ?_
  rintro e w2 ⟨A2, k2, rfl, r, _, x⟩
  replace X := Lib.hid x
  have R := Lib.hid r
  clear r x
  go_wp2_with fail
  refine (sameLit A2 k2 [128, 1] w _ X.out R.out (by decide)).mono ?_
  rintro e v2 ⟨rfl, x⟩
  replace X := Lib.hid x
  clear x
  go_wp2_with fail
  refine (numLit 4611686018427387904 [128, 128, 128, 128, 128, 128, 128, 128, 128, 1] w _ X.out (by simp [I64]) (by decide)).mono ?_
  rintro e w3 ⟨A3, k3, rfl, r, _, x⟩
  replace X := Lib.hid x
  have R := Lib.hid r
  clear r x
  go_wp2_with fail
  refine (sameLit A3 k3 [128, 128, 128, 128, 128, 128, 128, 128, 128, 1] w _ X.out R.out (by decide)).mono ?_
  rintro e v3 ⟨rfl, x⟩
  replace X := Lib.hid x
  clear x
  go_wp2_with fail
  refine (numsLit [7] [3, -3] [7, 4, 6, 5] w _ X.out (by intro n hn; simp at hn; rcases hn with rfl | rfl <;> simp [I64]) (by decide) (by decide)).mono ?_
  rintro e w5 ⟨A5, k5, rfl, r, x⟩
  replace X := Lib.hid x
  have R := Lib.hid r
  clear r x
  go_wp2_with fail
  refine (sameLit A5 k5 [7, 4, 6, 5] w _ X.out R.out (by decide)).mono ?_
  rintro e v5 ⟨rfl, x⟩
  replace X := Lib.hid x
  clear x
  go_wp2_with fail
  refine (textLit ⟨#[97, 98]⟩ [4, 97, 98] w _ X.out (by decide) (by decide)).mono ?_
  rintro e w6 ⟨A6, k6, rfl, r, x⟩
  replace X := Lib.hid x
  have R := Lib.hid r
  clear r x
  go_wp2_with fail
  refine (sameLit A6 k6 [4, 97, 98] w _ X.out R.out (by decide)).mono ?_
  rintro e v6 ⟨rfl, x⟩
  replace X := Lib.hid x
  clear x
  go_wp2_with fail
  refine (flagLit [7] [7, 1] w _ X.out (by decide) (by decide)).mono ?_
  rintro e w7 ⟨A7, k7, rfl, r, x⟩
  replace X := Lib.hid x
  have R := Lib.hid r
  clear r x
  go_wp2_with fail
  refine (sameLit A7 k7 [7, 1] w _ X.out R.out (by decide)).mono ?_
  rintro e v7 ⟨rfl, x⟩
  replace X := Lib.hid x
  clear x
  go_wp2_with fail
  refine (numberLit [128, 0] 0 4 ⟨0, 0, 4⟩ w _ X.out (by decide) (by decide) (by decide) rfl rfl).mono ?_
  rintro e u0 ⟨rfl, x⟩
  replace X := Lib.hid x
  clear x
  go_wp2_with fail
  refine (numberLit [128] 0 3 ⟨0, 0, 3⟩ w _ X.out (by decide) (by decide) (by decide) rfl rfl).mono ?_
  rintro e u1 ⟨rfl, x⟩
  replace X := Lib.hid x
  clear x
  go_wp2_with fail
  refine (numberLit [255, 255, 255, 255, 255, 255, 255, 255, 255, 255] 0 4 ⟨0, 0, 4⟩ w _ X.out (by decide) (by decide) (by decide) rfl rfl).mono ?_
  rintro e u2 ⟨rfl, x⟩
  replace X := Lib.hid x
  clear x
  go_wp2_with fail
  refine (numberLit [255, 255, 255, 255, 255, 255, 255, 255, 255, 1] (-9223372036854775808) 0 ⟨10, 0, 0⟩ w _ X.out (by decide) (by decide) (by decide) rfl rfl).mono ?_
  rintro e u3 ⟨rfl, x⟩
  replace X := Lib.hid x
  clear x
  go_wp2_with fail
  refine (rest_any _).mono ?_
  rintro e u9 ⟨rfl, x⟩
  replace X := Lib.hid (X.out.trans0 x)
  clear x
  go_wp2_with fail
  go_ret
  exact ⟨rfl, X.out⟩
end Go.Proofs.Yteofjillmhfamaa
