/- Chapter 3's statements, walked: WireReads. -/
import Derived.Test.YtmobdofkiddfhaaWAsk
import Derived.Test.YtmobdofkiddfhaaItems
import Derived.Test.YtmobdofkiddfhaaRef3w
set_option linter.unusedVariables false
set_option linter.unusedSimpArgs false
namespace Go.Proofs.Ytmobdofkiddfhaa
open Go.RowKit B
theorem ask_any (g b g' b' : Nat) (l : List Int) (s : RS) (x : Item) (A : Option Addr) (c : Nat) (w : World) (h : Both w g b g' b' l s) (hl8 : l.length * 8 + 8 ≤ 140737488355328) :
    Calls Try.prog 33 #[.pointer (some ⟨g, 0, none⟩), .pointer (some ⟨g', 0, none⟩), x.val A c] w fun e w' => e = .returned (.bool true) ∧ ∃ s', Both w' g b g' b' l s' ∧ Ext (GG g g') w w' := by
  by_cases k1 : x.kind = 1
  · exact ask1_any g b g' b' l s x A c w h hl8 (by simp [k1])
  by_cases k2 : x.kind = 2
  · exact ask2_any g b g' b' l s x A c w h hl8 (by simp [k2])
  by_cases k3 : x.kind = 3
  · exact ask3_any g b g' b' l s x A c w h hl8 (by simp [k3])
  by_cases k4 : x.kind = 4
  · exact ask4_any g b g' b' l s x A c w h hl8 (by simp [k4])
  by_cases k5 : x.kind = 5
  · exact ask5_any g b g' b' l s x A c w h hl8 (by simp [k5])
  exact ask6_any g b g' b' l s x A c w h hl8 (by simp [k1, k2, k3, k4, k5])
set_option maxRecDepth 100000 in
set_option maxHeartbeats 8000000 in
theorem wireReads_any (b : List Int) {A : Option Addr} {c : Nat} (its : List (Item × Option Addr × Nat)) {a : Option Addr} {cap : Nat} {w : World} (hrow : Row w A (B8 b)) (hb : Byt b) (hc : b.length ≤ c) (hlen : c ≤ 1048576) (hits : Its w a its) (hcap : its.length ≤ cap) (hcl : cap ≤ 1048576) :
    Calls Try.prog 6 #[.slice A b.length c, .slice a its.length cap] w fun e w' => e = .returned (.bool true) ∧ Ext None_ w w' := by
  have HROW := Lib.hid hrow
  have HBY := Lib.hid hb
  have HITS : ∀ W, Ext None_ w W → Hid (Its W a its) := fun W hh => Lib.hid (hits.ext hh (fun _ _ a => a))
  have hl : b.length ≤ 1048576 := by omega
  have hil : its.length ≤ 1048576 := by omega
  clear hrow hits hlen hb
  obtain ⟨A', hA', hcut⟩ := cut_h (P := Try.prog) 23 5 1 Try.underlying23 infoU8 (some ⟨w.heap.size, 0, none⟩) (b.length + 80) (b.length + 80) (b.length : Int) (by omega) (by omega)
  have HA := Lib.hid hA'
  clear hA'
  go_enter Try.func6, Try.ntmps6
  go_wp2_with fail
  refine (roomy_any A c b 92 _ HROW.out (by omega)).mono ?_
  rintro e w1 ⟨rfl, hblk, x1⟩
  have X1 := Lib.hid x1
  have HBK := Lib.hid hblk
  have HW1 : w.heap.size < w1.heap.size := hblk.lt
  have HT : Hid (Row w1 A' (B8 b)) := Lib.hid (by
    have := cut_row (lo := 0) (hi := b.length) (size := 1) hblk.row HA.out (by simp [B8_length, mark80_length])
    simpa [B8, mark80] using this)
  clear hblk x1
  go_wp2_with fail
  refine (Read_any A' (b.length + 80) b _ HT.out HBY.out (by omega)).mono ?_
  rintro e w2 ⟨g, g0, rfl, r, hg, hg0, x⟩
  have R := Lib.hid r
  have X2 := Lib.hid (X1.out.trans0 x)
  have Y2 := Lib.hid x
  clear r x
  go_wp2_with fail
  refine (rRead_any A c b _ (HROW.out.ext0 X2.out) HBY.out (by omega)).mono ?_
  rintro e w3 ⟨h, h0, rfl, r, hh, hh0, x⟩
  have hlt2 := R.out.lt
  have BO : Hid (Both w3 g g0 h h0 b ⟨0, 0, 0⟩) := Lib.hid ⟨R.out.ext0 x, r, by omega, by omega, by omega⟩
  have X3 := Lib.hid (X2.out.trans0 x)
  have Y3 := Lib.hid (Y2.out.trans0 x)
  clear r x
  go_wp2_with fail
  refine (sameR_any g g0 h h0 b _ _ BO.out.1 BO.out.2.1).mono ?_
  rintro e w4 ⟨rfl, x⟩
  have BO4 : Hid (Both w4 g g0 h h0 b ⟨0, 0, 0⟩) := Lib.hid ⟨BO.out.1.ext0 x, BO.out.2.1.ext0 x, BO.out.2.2⟩
  have X4 := Lib.hid (X3.out.trans0 x)
  have Y4 := Lib.hid (Y3.out.trans0 x)
  clear x
  have hml := mark80_length b 92
  have HI := fun W h1 h2 => Lib.hid (intact_any (some ⟨w.heap.size, 0, none⟩) (b.length + 80) (mark80 b 92) A c b 92 W h1 h2 (by omega) (by omega) (by omega))
  rw [hml, decide_eq_true (show mark80 b 92 = mark80 b 92 from rfl)] at HI
  go_wp2_with fail
  refine (HI _ (HBK.out.row.ext0 Y4.out |> fun h => by simpa using h) (HROW.out.ext0 X4.out)).out.mono ?_
  rintro e w5 ⟨rfl, x⟩
  have BO5 : Hid (Both w5 g g0 h h0 b ⟨0, 0, 0⟩) := Lib.hid ⟨BO4.out.1.ext0 x, BO4.out.2.1.ext0 x, BO4.out.2.2⟩
  have X5 := Lib.hid (X4.out.trans0 x)
  have HBK5 := Lib.hid (HBK.out.ext (Y4.out.trans0 x) (fun a => a))
  clear x
  go_wp2_with fail
  go_loopw [8] (fun v8 wr => ∃ (i : Nat) (q : List Int), v8 = .int .i64 i ∧ i ≤ b.length + 80 ∧ q.length = b.length + 80 ∧ Hid (Blk wr w.heap.size (B8 q).toArray 5) ∧ Hid (Both wr g g0 h h0 b ⟨0, 0, 0⟩) ∧ Hid (Ext None_ w wr)) (fun v8 _ => b.length + 80 - (intOf v8).toNat)
  case atStart => exact ⟨0, mark80 b 92, by go_num, by omega, hml, HBK5, BO5, X5⟩
  case round =>
    obtain ⟨i, q, rfl, hi, hql, hblk, hbo, hx⟩ := hrel
    by_cases hlt : i < b.length + 80
    · obtain ⟨y, hy⟩ : ∃ y, y = q[i]'(by omega) := ⟨_, rfl⟩
      have hcell : wr.cell? ⟨w.heap.size, i, none⟩ = some (.int .u8 y) := by
        rw [hblk.out.cell]
        simp [B8, hy, hql, hlt]
      have hfro : wr.frozen? ⟨w.heap.size, i, none⟩ = false := hblk.out.frozen i
      have hst := fun v => Lib.hid (hblk.out.set i (.int .u8 v))
      have hex : ∀ v, Hid (Ext (fun k => k = w.heap.size) wr (wr.setCell ⟨w.heap.size, i, none⟩ (.int .u8 v))) := fun v => Lib.hid ((Ext.refl (fun k => k = w.heap.size) wr).setCell (p := ⟨w.heap.size, i, none⟩) (.inl rfl) _)
      clear hy
      go_wp2_with fail
      refine ⟨⟨i + 1, q.set i ((255 - y) % 256), by go_num, by omega, by simp [hql], Lib.hid ?_, Lib.hid ⟨hbo.out.1.ext (hex _).out ?_ ?_, hbo.out.2.1.ext (hex _).out ?_ ?_, hbo.out.2.2⟩, Lib.hid (hx.out.trans (hex _).out ?_)⟩, by simp [intOf]; omega⟩
      · have := (hst ((255 - y) % 256)).out
        rw [B8_set]
        simpa using this
      · intro e; have e2 : g = w.heap.size := e; omega
      · intro e; have e2 : g0 = w.heap.size := e; omega
      · intro e; have e2 : h = w.heap.size := e; omega
      · intro e; have e2 : h0 = w.heap.size := e; omega
      · intro k hk e; have e2 : k = w.heap.size := e; omega
    · have hge : b.length + 80 ≤ i := by omega
      have hgs : w.heap.size ≤ g := by omega
      have hhs : w.heap.size ≤ h := by omega
      clear hblk HI HBK HBK5 BO4 BO5 BO R hlt
      go_wp2_with fail
      go_loopw [9] (fun v9 wq => ∃ (j : Nat) (s : RS), v9 = .int .i64 j ∧ j ≤ its.length ∧ Hid (Both wq g g0 h h0 b s) ∧ Hid (Ext None_ w wq)) (fun v9 _ => its.length - (intOf v9).toNat)
      case atStart => exact ⟨0, ⟨0, 0, 0⟩, by go_num, by omega, hbo, hx⟩
      case round =>
        obtain ⟨j, s, rfl, hj, hbo2, hx2⟩ := hrel
        by_cases hlt : j < its.length ∧ j < 200
        · obtain ⟨hlt, h200⟩ := hlt
          obtain ⟨q, ad, hq, ha, hcells, hok⟩ := (HITS _ hx2.out).out.at_ hlt
          subst ha
          obtain ⟨c0, c1, c2, c3, c4, c5⟩ := hcells
          clear hok
          go_wp2_with fail
          refine (ask_any g g0 h h0 b s q.1 q.2.1 q.2.2 _ hbo2.out (by omega)).mono ?_
          rintro e w6 ⟨rfl, s', bo, x⟩
          have BO6 := Lib.hid bo
          have X6 : Hid (Ext None_ w w6) := Lib.hid (hx2.out.trans x (fun k hk e => e.elim (fun e => by omega) (fun e => by omega)))
          clear bo x
          go_wp2_with fail
          refine (sameR_any g g0 h h0 b _ _ BO6.out.1 BO6.out.2.1).mono ?_
          rintro e w7 ⟨rfl, x⟩
          have BO7 : Hid (Both w7 g g0 h h0 b s') := Lib.hid ⟨BO6.out.1.ext0 x, BO6.out.2.1.ext0 x, BO6.out.2.2⟩
          have X7 := Lib.hid (X6.out.trans0 x)
          clear x
          go_wp2_with fail
          exact ⟨⟨j + 1, s', by go_num, by omega, BO7, X7⟩, by simp [intOf]; omega⟩
        · have hend : ¬ (j < its.length) ∨ (j < its.length ∧ ¬ (j < 200)) := by omega
          clear hlt
          rcases hend with hge2 | ⟨hlt, h200⟩
          all_goals
            go_wp2_with fail
            refine (End_any g g0 b s _ hbo2.out.1).mono ?_
            rintro e w6 ⟨rfl, r, x⟩
            have R6 := Lib.hid r
            have F6 := Lib.hid (hbo2.out.2.1.ext x hbo2.out.2.2.1.symm hbo2.out.2.2.2.1.symm)
            have X6 : Hid (Ext None_ w w6) := Lib.hid (hx2.out.trans x (fun k hk (e : k = g) => by omega))
            clear r x
            go_wp2_with fail
            refine (rEnd_any h h0 b s _ F6.out).mono ?_
            rintro e w7 ⟨rfl, r, x⟩
            have F7 := Lib.hid r
            have R7 := Lib.hid (R6.out.ext x hbo2.out.2.2.1 hbo2.out.2.2.2.2.symm)
            have X7 : Hid (Ext None_ w w7) := Lib.hid (X6.out.trans x (fun k hk (e : k = h) => by omega))
            clear r x
            go_wp2_with fail
            refine (sameR_any g g0 h h0 b _ _ R7.out F7.out).mono ?_
            rintro e w8 ⟨rfl, x⟩
            have X8 := Lib.hid (X7.out.trans0 x)
            clear x
            go_wp2_with fail
            refine (wireRuns_any _).mono ?_
            rintro e w9 ⟨rfl, x⟩
            have X9 := Lib.hid (X8.out.trans0 x)
            clear x
            go_wp2_with fail
            go_ret
            exact ⟨rfl, X9.out⟩
end Go.Proofs.Ytmobdofkiddfhaa
