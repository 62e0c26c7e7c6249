/- Chapter 3's statements, walked: WireOne. -/
import Derived.Test.YtmobdofkiddfhaaWRuns
import Derived.Test.YtmobdofkiddfhaaPure3
set_option linter.unusedVariables false
set_option linter.unusedSimpArgs false
namespace Go.Proofs.Ytmobdofkiddfhaa
open Go.RowKit B
theorem x0' (w : World) (o : Obj) : Ext None_ w (w.alloc o) := (Ext.refl _ _).alloc _
theorem made0I (w : World) : OwnI (w.alloc (.cells #[] 3)) (fun k => w.heap.size ≤ k) (.slice (some ⟨w.heap.size, 0, none⟩) 0 0) [] :=
  OwnI.mono (ok := fun k => k = w.heap.size) (Own.made w #[] 0 (by simp [maxLen]) rfl) (fun k _ e => by omega)
theorem OwnI.late {w1 w2 : World} {m : Nat} {v1 v2 : Value} {l l2 : List Int} (h1 : OwnI w1 (fun k => m ≤ k) v1 l) (hm : m ≤ w1.heap.size) (h2 : OwnI w2 (From v1 w1.heap.size) v2 l2) : OwnI w2 (fun k => m ≤ k) v2 l2 :=
  OwnI.mono h2 (fun k _ hk => by
    rcases hk with hk | hk
    · exact h1.blk k hk
    · omega)
theorem extI_late {S : Nat → Prop} {w w1 w2 : World} {ok : Nat → Prop} {v1 : Value} {l : List Int} (h1 : OwnI w1 ok v1 l) (hok : ∀ k, ok k → w.heap.size ≤ k) (hx : Ext S w w1) (h2 : Ext (Of v1) w1 w2) : Ext S w w2 :=
  hx.trans h2 (fun k hk hq => by have := hok k (h1.blk k hq); omega)
theorem I8_set (l : List Int) (i : Nat) (x : Int) : I8 (l.set i x) = (I8 l).set i (.int .i64 x) := by simp [I8, List.map_set]
theorem encs_ge (l : List Int) : l.length ≤ (B.encs l).length := by
  induction l with
  | nil => simp
  | cons n l ih =>
    have e : B.encs (n :: l) = enc n ++ B.encs l := by simp [B.encs]
    have := (enc_length n).1
    rw [e, List.length_append, List.length_cons]
    omega
set_option maxRecDepth 100000 in
set_option maxHeartbeats 4000000 in
theorem wireOne_any (b : List Int) {A : Option Addr} {c : Nat} {w : World} (hrow : Row w A (B8 b)) (hc : b.length ≤ c) (hlen : c ≤ 1048576) (hb : Byt b) :
    Calls Try.prog 5 #[.slice A b.length c] w fun e w' => e = .returned (.bool true) ∧ Ext None_ w w' := by
  obtain ⟨W, hW⟩ : ∃ W, W = w := ⟨_, rfl⟩
  subst hW
  have HROW := Lib.hid hrow
  have HB := Lib.hid hb
  have hl : b.length ≤ 1048576 := by omega
  clear hrow hb hlen
  obtain ⟨ns, s1, hN⟩ : ∃ ns s1, NumsR b b.length ⟨0, 0, 0⟩ = (ns, s1) := ⟨_, _, rfl⟩
  have hE := fun he => one_law b ns s1 HB.out hN he
  have HN := Lib.hid hN
  have HE := Lib.hid hE
  clear hN hE
  by_cases hfe : (EndR b s1).fe = 0
  · obtain ⟨heq, hI⟩ := HE.out hfe
    have HEQ : Hid ([] ++ enc (ns.length : Int) ++ encs ns = b) := Lib.hid (by rw [List.nil_append]; exact heq)
    have hnl : ns.length ≤ b.length := by
      have h1 := encs_ge ns
      have h2 := congrArg List.length heq
      rw [List.length_append] at h2
      omega
    have HI := Lib.hid hI
    have hb1 := neT hfe
    clear hfe heq hI
    go_enter Try.func5, Try.ntmps5
    go_wp2_with fail
    refine (Read_any A c b _ HROW.out HB.out (by omega)).mono ?_
    rintro e w1 ⟨g1, b1, rfl, r1, hg1, hb1', x1⟩
    have R1 := Lib.hid r1; have L1 := Lib.hid r1.lt; have X1 := Lib.hid x1
    clear r1 x1
    go_wp2_with fail
    refine (Read_any A c b _ (HROW.out.ext0 X1.out) HB.out (by omega)).mono ?_
    rintro e w2 ⟨g2, b2, rfl, r2, hg2, hb2, x2⟩
    have R2 := Lib.hid r2; have L2 := Lib.hid r2.lt; have X2 := Lib.hid (X1.out.trans0 x2)
    replace R1 := Lib.hid (R1.out.ext0 x2)
    clear r2 x2
    go_wp2_with fail
    refine (Nums_any g1 b1 b _ b.length _ R1.out (by omega)).mono ?_
    rw [HN.out]
    rintro e w3 ⟨vl, rfl, ol, r, x⟩
    have SL := Lib.hid (And.intro (Own.lt ol) x.size)
    have OB := Lib.hid ol.blk
    obtain ⟨Al, cl, rfl, hl1, _, rl⟩ := Own.slice ol
    have RL := Lib.hid rl
    clear rl
    have LL := L1.out
    have LL2 := L2.out
    replace R1 := Lib.hid r
    replace R2 := Lib.hid (R2.out.ext x (by omega) (by omega))
    have X3 := Lib.hid (ext_g X2.out (by omega) x)
    clear r x ol
    go_wp2_with fail
    refine (Nums_any g2 b2 b _ b.length _ R2.out (by omega)).mono ?_
    rw [HN.out]
    rintro e w4 ⟨vm, rfl, om, r, x⟩
    have OM := Lib.hid om
    obtain ⟨Am, cm, rfl, hm1, _, _⟩ := Own.slice om
    have RL4 := Lib.hid (RL.out.ext x (fun ad e h => by have h2 : ad.block = g2 := h; have := OB.out ad.block (by rw [e]; rfl); omega))
    have hs34 := x.size
    replace R1 := Lib.hid (R1.out.ext x (by omega) (by omega))
    have X4 := Lib.hid (ext_g X3.out (by omega) x)
    clear r x om
    go_wp2_with fail
    refine (End_any g1 b1 b _ _ R1.out).mono ?_
    rintro e w5 ⟨rfl, r, x⟩
    have OM5 := Lib.hid (OM.out.ext x (fun k hk e => by have e2 : k = g1 := e; have : w3.heap.size ≤ k := OM.out.blk k hk; have := SL.out.2; omega))
    have RL5 := Lib.hid (RL4.out.ext x (fun ad e h => by have h2 : ad.block = g1 := h; have := OB.out ad.block (by rw [e]; rfl); omega))
    have X5 := Lib.hid (ext_g X4.out (by omega) x)
    have GM := Lib.hid (Own.lt OM5.out)
    clear r x
    go_wp2_with (at_builtin; refine appI rfl (.tmp 31) (.tmp 32) rfl _ [] ns Al cl rfl rfl (made0I _) (RL5.out.ext0 (x0' _ _)) (by simp; omega) ?_; intro v6 w6 o6 x6; have O6 : OwnI w6 (fun k => w5.heap.size ≤ k) v6 ns := OwnI.late (made0I w5) (by simp) o6; have HX6 : Hid (Ext None_ w5 w6) := Lib.hid (extI_late (made0I w5) (fun k h => h) (x0' _ _) x6); obtain ⟨Aw, cw, rfl, hw1, _, rw_⟩ := Own.slice O6; have RW := Lib.hid rw_; have OWB := Lib.hid O6.blk; clear o6 x6 O6 rw_)
    have RL6 := Lib.hid (RL5.out.ext0 HX6.out)
    have OM6 := Lib.hid (OM5.out.ext0 HX6.out)
    have X6 := Lib.hid (X5.out.trans0 HX6.out)
    go_wp2_with fail
    refine (wNums_any none 0 [] Al cl ns _ (Row.nil _ _) RL6.out HI.out (by simp; omega)).mono ?_
    rintro e w7 ⟨v7, rfl, o7, x7⟩
    rw [HEQ.out] at o7
    obtain ⟨A7, c7, rfl, h71, _, r7⟩ := Own.slice o7
    have R7 := Lib.hid r7
    have RL7 := Lib.hid (RL6.out.ext0 x7)
    have OM7 := Lib.hid (OM6.out.ext0 x7)
    have RW7 := Lib.hid (RW.out.ext0 x7)
    have X7 := Lib.hid (X6.out.trans0 x7)
    have RB7 := Lib.hid (HROW.out.ext0 X7.out)
    have hs67 := x7.size
    clear o7 x7 r7
    go_wp2_with fail
    refine (same_any A7 c7 b A c b _ R7.out RB7.out (by omega) (by omega)).mono ?_
    rintro e w8 ⟨rfl, x8⟩
    rw [decide_eq_true (show b = b from rfl)]
    have RL8 := Lib.hid (RL7.out.ext0 x8)
    have OM8 := Lib.hid (OM7.out.ext0 x8)
    have RW8 := Lib.hid (RW7.out.ext0 x8)
    have X8 := Lib.hid (X7.out.trans0 x8)
    obtain ⟨_, _, e8, _, _, rm8⟩ := Own.slice OM8.out
    simp only [Value.slice.injEq, true_and] at e8
    obtain ⟨rfl, rfl⟩ := e8
    have RM8 := Lib.hid rm8
    clear x8 rm8
    go_wp2_with fail
    refine (sameI_any Al cl ns Am cm ns _ RL8.out RM8.out (by omega) (by omega)).mono ?_
    rintro e w9 ⟨rfl, x9⟩
    rw [decide_eq_true (show ns = ns from rfl)]
    have RL9 := Lib.hid (RL8.out.ext0 x9)
    have OM9 := Lib.hid (OM8.out.ext0 x9)
    have RW9 := Lib.hid (RW8.out.ext0 x9)
    have X9 := Lib.hid (X8.out.trans0 x9)
    clear x9 RM8
    have hs56 := HX6.out.size
    go_wp2_with fail
    go_loopw [8] (fun v8 wr => ∃ (i : Nat) (ms : List Int), v8 = .int .i64 i ∧ i ≤ ns.length ∧ ms.length = ns.length ∧ Hid (Own wr 3 1 (fun k => w3.heap.size ≤ k ∧ k < w5.heap.size) (.slice Am ns.length cm) ns.length (I8 ms)) ∧ Hid (Row wr Al (I8 ns)) ∧ Hid (Row wr Aw (I8 ns)) ∧ Hid (Ext None_ W wr)) (fun v8 _ => ns.length - (intOf v8).toNat)
    case atStart => exact ⟨0, ns, rfl, by omega, rfl, Lib.hid ⟨OM9.out.own, fun k hk => ⟨OM9.out.blk k hk, GM.out k hk⟩⟩, RL9, RW9, X9⟩
    case round =>
      obtain ⟨i, ms, rfl, hi, hml, ho, hrl, hrw, hx⟩ := hrel
      by_cases hlt : i < ns.length
      · obtain ⟨gm, rfl⟩ : ∃ gm, Am = some ⟨gm, 0, none⟩ := by
          rcases ho.out.own.2 with ⟨_, h0⟩ | ⟨gm, cap, cur, e, _⟩
          · omega
          · simp only [Value.slice.injEq] at e
            exact ⟨gm, e.1⟩
        have hgm := ho.out.blk gm rfl
        obtain ⟨y, hy⟩ : ∃ y, y = ms[i]'(by omega) := ⟨_, rfl⟩
        have hcell : wr.cell? ⟨gm, i, none⟩ = some (.int .i64 y) := by
          rw [World.ownsRow.cellAt ho.out.own i (by omega)]
          simp [I8, hy, hml, hlt]
        have hfro : wr.frozen? ⟨gm, i, none⟩ = false := World.ownsRow.frozenAt ho.out.own i
        have hst := fun v => Lib.hid (World.ownsRow.stored ho.out.own i (.int .i64 v)).1
        have hex : ∀ v, Hid (Ext (fun k => k = gm) wr (wr.setCell ⟨gm, i, none⟩ (.int .i64 v))) := fun v => Lib.hid ((Ext.refl (fun k => k = gm) wr).setCell (p := ⟨gm, i, none⟩) (.inl rfl) _)
        have HBLK := Lib.hid ho.out.blk
        clear hy
        go_wp2_with fail
        refine ⟨⟨i + 1, ms.set i (wrap64 (-1 - y)), by go_num, by omega, by simp [hml], Lib.hid ⟨?_, HBLK.out⟩, Lib.hid (hrl.out.ext (hex _).out ?_), Lib.hid (hrw.out.ext (hex _).out ?_), Lib.hid (hx.out.trans (hex _).out ?_)⟩, by simp [intOf]; omega⟩
        · rw [I8_set]; exact (hst _).out
        · intro ad e h
          have h2 : ad.block = gm := h
          have h3 := SL.out.1 ad.block (by rw [e]; rfl)
          omega
        · intro ad e h
          have h2 : ad.block = gm := h
          have h3 : w5.heap.size ≤ ad.block := OWB.out ad.block (by rw [e]; rfl)
          omega
        · intro k hk h
          have h2 : k = gm := h
          have := X3.out.size
          omega
      · have hge : ns.length ≤ i := by omega
        go_wp2_with fail
        refine (sameI_any Al cl ns Aw cw ns _ hrl.out hrw.out (by omega) (by omega)).mono ?_
        rintro e w10 ⟨rfl, x10⟩
        rw [decide_eq_true (show ns = ns from rfl)]
        have X10 := Lib.hid (hx.out.trans0 x10)
        clear x10
        go_wp2_with fail
        refine (wireRuns_any _).mono ?_
        rintro e w11 ⟨rfl, x11⟩
        have X11 := Lib.hid (X10.out.trans0 x11)
        clear x11
        go_wp2_with fail
        go_ret
        exact ⟨rfl, X11.out⟩
  · have hb1 := neF hfe
    clear hfe
    go_enter Try.func5, Try.ntmps5
    go_wp2_with fail
    refine (Read_any A c b _ HROW.out HB.out (by omega)).mono ?_
    rintro e w1 ⟨g1, b1, rfl, r1, hg1, hb1', x1⟩
    have R1 := Lib.hid r1; have L1 := Lib.hid r1.lt; have X1 := Lib.hid x1
    clear r1 x1
    go_wp2_with fail
    refine (Read_any A c b _ (HROW.out.ext0 X1.out) HB.out (by omega)).mono ?_
    rintro e w2 ⟨g2, b2, rfl, r2, hg2, hb2, x2⟩
    have R2 := Lib.hid r2; have L2 := Lib.hid r2.lt; have X2 := Lib.hid (X1.out.trans0 x2)
    replace R1 := Lib.hid (R1.out.ext0 x2)
    clear r2 x2
    go_wp2_with fail
    refine (Nums_any g1 b1 b _ b.length _ R1.out (by omega)).mono ?_
    rw [HN.out]
    rintro e w3 ⟨vl, rfl, ol, r, x⟩
    have SL := Lib.hid (And.intro (Own.lt ol) x.size)
    have OB := Lib.hid ol.blk
    obtain ⟨Al, cl, rfl, hl1, _, rl⟩ := Own.slice ol
    have RL := Lib.hid rl
    clear rl
    have LL := L1.out
    have LL2 := L2.out
    replace R1 := Lib.hid r
    replace R2 := Lib.hid (R2.out.ext x (by omega) (by omega))
    have X3 := Lib.hid (ext_g X2.out (by omega) x)
    clear r x ol
    go_wp2_with fail
    refine (Nums_any g2 b2 b _ b.length _ R2.out (by omega)).mono ?_
    rw [HN.out]
    rintro e w4 ⟨vm, rfl, om, r, x⟩
    have OM := Lib.hid om
    obtain ⟨Am, cm, rfl, hm1, _, _⟩ := Own.slice om
    have RL4 := Lib.hid (RL.out.ext x (fun ad e h => by have h2 : ad.block = g2 := h; have := OB.out ad.block (by rw [e]; rfl); omega))
    have hs34 := x.size
    replace R1 := Lib.hid (R1.out.ext x (by omega) (by omega))
    have X4 := Lib.hid (ext_g X3.out (by omega) x)
    clear r x om
    go_wp2_with fail
    refine (End_any g1 b1 b _ _ R1.out).mono ?_
    rintro e w5 ⟨rfl, r, x⟩
    have X5 := Lib.hid (ext_g X4.out (by omega) x)
    clear r x
    go_wp2_with fail
    refine (wireRuns_any _).mono ?_
    rintro e w11 ⟨rfl, x11⟩
    have X11 := Lib.hid (X5.out.trans0 x11)
    clear x11
    go_wp2_with fail
    go_ret
    exact ⟨rfl, X11.out⟩
end Go.Proofs.Ytmobdofkiddfhaa
