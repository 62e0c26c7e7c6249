/- Chapter 3's statements, walked: WireCut. -/
import Derived.Test.YteofjillmhfamaaPure4
import Derived.Test.YteofjillmhfamaaWWrites
set_option linter.unusedVariables false
set_option linter.unusedSimpArgs false
namespace Go.Proofs.Yteofjillmhfamaa
open Go.RowKit B
theorem encI_nil {x : Item} (h : (encI x).length = 0) : x.kind < 1 ∨ (¬ x.kind < 1 ∧ 4 < x.kind) := by
  unfold encI at h
  have e1 := (enc_length x.n).1; have e2 := (enc_length x.l.length).1; have e3 := (enc_length x.s.size).1
  split at h
  · omega
  split at h
  · rw [List.length_append] at h; omega
  split at h
  · rw [List.length_append] at h; omega
  split at h
  · simp at h
  · omega
theorem within_le (n hi : Int) (h : 0 ≤ hi) : 0 ≤ within n 0 hi ∧ within n 0 hi ≤ hi := by
  unfold within
  have h1 := Int.emod_nonneg n (show hi - 0 + 1 ≠ 0 by omega)
  have h2 := Int.emod_lt_of_pos n (show 0 < hi - 0 + 1 by omega)
  omega
set_option maxRecDepth 100000 in
set_option maxHeartbeats 8000000 in
theorem wireCut_any (x : Item) (A2 : Option Addr) (c2 : Nat) (n : Int) {w : World} (hx : ItOk w x A2 c2) (hn : I64 n) :
    Calls Try.prog 8 #[x.val A2 c2, .int .i64 n] w fun e w' => e = .returned (.bool true) ∧ Ext None_ w w' := by
  have HOK : ∀ W, Ext None_ w W → Hid (ItOk W x A2 c2) := fun W hh => Lib.hid (hx.ext hh (fun _ _ a => a))
  have hlen := encI_len x hx.len hx.str
  have HBY := Lib.hid (byt_encI x hx.n hx.ints hx.len hx.str)
  have HCUT : Hid (∀ j, j < (encI x).length → backS ((encI x).take j) x ⟨0, 0, 0⟩ = ⟨0, 0, 3⟩) := Lib.hid (fun j hj => back_cut x j hx.n hx.ints hx.len hx.str hj)
  have HFAR : Hid (∀ ad, A2 = some ad → 0 < x.l.length → ad.block < w.heap.size) := Lib.hid (fun ad ha h0 => hx.row.lt (by rw [I8_length]; exact h0) ad ha)
  have HCC := Lib.hid (fun i => (Blk.new w #[.int .i64 x.kind, .int .i64 x.n, .int .i64 x.most, .slice A2 x.l.length c2, .string x.s, .bool x.f] 37).cell i)
  have b0 := HCC.out 0; have b1 := HCC.out 1; have b2 := HCC.out 2; have b3 := HCC.out 3; have b4 := HCC.out 4; have b5 := HCC.out 5
  have X0 : Hid (Ext None_ w (w.alloc (.cells #[.int .i64 x.kind, .int .i64 x.n, .int .i64 x.most, .slice A2 x.l.length c2, .string x.s, .bool x.f] 37))) := Lib.hid (x0 _ _)
  clear hx HCC
  have hval : x.val A2 c2 = .agg #[.int .i64 x.kind, .int .i64 x.n, .int .i64 x.most, .slice A2 x.l.length c2, .string x.s, .bool x.f] := rfl
  rw [hval]
  clear hval
  simp only [List.getElem?_toArray, List.getElem?_cons_zero, List.getElem?_cons_succ] at b0 b1 b2 b3 b4 b5
  by_cases h0 : (encI x).length = 0
  · have hk := encI_nil h0
    rcases hk with hk | ⟨hk1, hk2⟩
    all_goals
      go_enter Try.func8, Try.ntmps8
      go_wp2_with fail
      refine (putI_any none 0 [] x A2 c2 _ (Row.nil _ _) (HOK _ X0.out).out (by simp)).mono ?_
      rintro e w1 ⟨v1, v2, rfl, o1, o2, y1⟩
      rw [List.nil_append] at o1
      have X1 := Lib.hid (X0.out.trans0 y1)
      have d0 := y1.cell b0 (fun a => a)
      obtain ⟨A1, c1, rfl, _, _, _⟩ := Own.slice o1
      clear o1 o2 y1
      go_wp2_with fail
      refine (wireRuns_any _).mono ?_
      rintro e w2 ⟨rfl, y2⟩
      have X2 := Lib.hid (X1.out.trans0 y2)
      clear y2
      go_wp2_with fail
      go_ret
      exact ⟨rfl, X2.out⟩
  · have hm := within_le n ((encI x).length - 1 : Int) (by omega)
    obtain ⟨m, hme⟩ : ∃ m, m = within n 0 ((encI x).length - 1 : Int) := ⟨_, rfl⟩
    rw [← hme] at hm
    have HM := Lib.hid hme
    have HW := fun W => Lib.hid (within_any n 0 ((encI x).length - 1 : Int) W hn (by omega) (by omega) (by omega))
    clear hme
    go_enter Try.func8, Try.ntmps8
    go_wp2_with fail
    refine (putI_any none 0 [] x A2 c2 _ (Row.nil _ _) (HOK _ X0.out).out (by simp)).mono ?_
    rintro e w1 ⟨v1, v2, rfl, o1, o2, y1⟩
    rw [List.nil_append] at o1
    have X1 := Lib.hid (X0.out.trans0 y1)
    have B1 := Lib.hid (And.intro (y1.cell b0 (fun a => a)) (And.intro (y1.cell b1 (fun a => a)) (And.intro (y1.cell b2 (fun a => a)) (And.intro (y1.cell b3 (fun a => a)) (And.intro (y1.cell b4 (fun a => a)) (y1.cell b5 (fun a => a)))))))
    obtain ⟨A1, c1, rfl, hc1, _, r1⟩ := Own.slice o1
    have R1 := Lib.hid r1
    have hL1 : w.heap.size < w1.heap.size := World.block_lt_of_cell? w1 _ B1.out.1
    clear o1 o2 y1 r1
    obtain ⟨A', hA', hcut⟩ := cut_h (P := Try.prog) 23 5 1 Try.underlying23 infoU8 A1 (encI x).length c1 m (by omega) (by omega)
    obtain ⟨L, hL⟩ : ∃ L, L = (encI x).take m.toNat := ⟨_, rfl⟩
    have hll : L.length = m.toNat := by rw [hL, List.length_take]; omega
    have HT : Hid (Row w1 A' (B8 L)) := Lib.hid (by
      have := cut_row (lo := 0) (hi := m.toNat) (size := 1) R1.out hA' (by rw [B8_length]; omega)
      rw [hL]
      simpa [B8, List.map_take] using this)
    have HBL : Hid (Byt L) := Lib.hid (by rw [hL]; exact fun q hq => HBY.out q (List.mem_of_mem_take hq))
    have HS : Hid (backS L x ⟨0, 0, 0⟩ = ⟨0, 0, 3⟩) := Lib.hid (by rw [hL]; exact HCUT.out _ (by omega))
    rw [← hll] at hcut
    have hle : L.length ≤ 176000000000000 := by omega
    clear hA' hL hll
    go_wp2_with fail
    refine (HW _).out.mono ?_
    rw [← HM.out]
    rintro e w2 ⟨rfl, rfl⟩
    go_wp2_with fail
    refine (Read_any A' c1 L _ HT.out HBL.out (by omega)).mono ?_
    rintro e w3 ⟨g, g0, rfl, r3, hg, hg0, y3⟩
    have X3 := Lib.hid (X1.out.trans0 y3)
    have B3 := Lib.hid (And.intro (y3.cell B1.out.1 (fun a => a)) (And.intro (y3.cell B1.out.2.1 (fun a => a)) (And.intro (y3.cell B1.out.2.2.1 (fun a => a)) (And.intro (y3.cell B1.out.2.2.2.1 (fun a => a)) (And.intro (y3.cell B1.out.2.2.2.2.1 (fun a => a)) (y3.cell B1.out.2.2.2.2.2 (fun a => a)))))))
    have R3 := Lib.hid r3
    have hgs : w.heap.size ≤ g := by omega
    clear r3 y3 b0 b1 b2 b3 b4 b5
    obtain ⟨b0, b1, b2, b3, b4, b5⟩ := B3.out
    go_wp2_with fail
    refine (back_any g g0 L _ x A2 c2 _ R3.out (HOK _ X3.out).out (by omega) (fun ad ha h0 e => by have := HFAR.out ad ha h0; omega)).mono ?_
    rw [HS.out]
    rintro e w4 ⟨rfl, r4, y4⟩
    have X4 : Hid (Ext None_ w w4) := Lib.hid (X3.out.trans y4 (fun k hk (e : k = g) => by omega))
    have R4 := Lib.hid r4
    clear r4 y4 b0 b1 b2 b3 b4 b5
    obtain ⟨Ar, cr, ⟨d0, d1, d2, d3⟩, df, _⟩ := R4.out.cells
    go_wp2_with fail
    refine (err_any _ _ _).mono ?_
    rintro e w5 ⟨rfl, y5⟩
    have X5 := Lib.hid (X4.out.trans0 y5)
    have R5 := Lib.hid (R4.out.ext0 y5)
    clear y5 d0 d1 d2 d3 df
    obtain ⟨Ar, cr, ⟨d0, d1, d2, d3⟩, df, _⟩ := R5.out.cells
    go_wp2_with fail
    refine (where_any _ _ _).mono ?_
    rintro e w6 ⟨rfl, y6⟩
    have X6 := Lib.hid (X5.out.trans0 y6)
    have R6 := Lib.hid (R5.out.ext0 y6)
    clear y6 d0 d1 d2 d3 df
    go_wp2_with fail
    refine (Next_any g g0 L _ _ R6.out).mono ?_
    rintro e w7 ⟨rfl, rfl⟩
    go_wp2_with fail
    refine (End_any g g0 L _ _ R6.out).mono ?_
    have hE : EndR L ⟨0, 0, 3⟩ = ⟨0, 0, 3⟩ := by unfold EndR; rw [if_neg (by simp)]
    rw [hE]
    rintro e w8 ⟨rfl, r8, y8⟩
    have X8 : Hid (Ext None_ w w8) := Lib.hid (X6.out.trans y8 (fun k hk (e : k = g) => by omega))
    clear r8 y8 hE
    go_wp2_with fail
    refine (wireRuns_any _).mono ?_
    rintro e w9 ⟨rfl, y9⟩
    have X9 := Lib.hid (X8.out.trans0 y9)
    clear y9
    go_wp2_with fail
    go_ret
    exact ⟨rfl, X9.out⟩
end Go.Proofs.Yteofjillmhfamaa
