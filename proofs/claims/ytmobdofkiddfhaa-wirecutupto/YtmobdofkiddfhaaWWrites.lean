/- Chapter 3's statements, walked: WireWrites. -/
import Derived.Test.YtmobdofkiddfhaaWPut
set_option linter.unusedVariables false
set_option linter.unusedSimpArgs false
namespace Go.Proofs.Ytmobdofkiddfhaa
open Go.RowKit B
theorem putI_any (A : Option Addr) (c : Nat) (l : List Int) (x : Item) (A2 : Option Addr) (c2 : Nat) (w : World) (hrow : Row w A (B8 l)) (hx : ItOk w x A2 c2) (hlen : l.length + 11000000 ≤ 140737488355328) :
    Calls Try.prog 25 #[.slice A l.length c, x.val A2 c2] w fun e w' => ∃ v1 v2, e = .returned (.tuple #[v1, v2]) ∧ OwnB w' (fun k => w.heap.size ≤ k) v1 (l ++ encI x) ∧ OwnB w' (fun k => w.heap.size ≤ k) v2 (l ++ encI x) ∧ Ext None_ w w' := by
  by_cases k1 : x.kind = 1
  · exact put1_any A c l x A2 c2 w hrow hx hlen (by simp [k1])
  by_cases k2 : x.kind = 2
  · exact put2_any A c l x A2 c2 w hrow hx hlen (by simp [k2])
  by_cases k3 : x.kind = 3
  · exact put3_any A c l x A2 c2 w hrow hx hlen (by simp [k3])
  by_cases k4 : x.kind = 4
  · exact put4_any A c l x A2 c2 w hrow hx hlen (by simp [k4])
  exact put5_any A c l x A2 c2 w hrow hx hlen (by simp [k1, k2, k3, k4])
set_option maxRecDepth 100000 in
set_option maxHeartbeats 8000000 in
theorem wireWrites_any (b : List Int) {A : Option Addr} {c : Nat} (its : List (Item × Option Addr × Nat)) {a : Option Addr} {cap : Nat} {w : World} (hrow : Row w A (B8 b)) (hc : b.length ≤ c) (hlen : c ≤ 1048576) (hits : Its w a its) (hcap : its.length ≤ cap) (hcl : cap ≤ 1048576) :
    Calls Try.prog 4 #[.slice A b.length c, .slice a its.length cap] w fun e w' => e = .returned (.bool true) ∧ Ext None_ w w' := by
  have HROW := Lib.hid hrow
  have HITS : ∀ W, Ext None_ w W → Hid (Its W a its) := fun W hh => Lib.hid (hits.ext hh (fun _ _ a => a))
  have hl : b.length ≤ 1048576 := by omega
  have hil : its.length ≤ 1048576 := by omega
  clear hrow hits hlen
  obtain ⟨A', hA', hcut⟩ := cut_h (P := Try.prog) 23 5 1 Try.underlying23 infoU8 (some ⟨w.heap.size, 0, none⟩) (b.length + 80) (b.length + 80) (b.length : Int) (by omega) (by omega)
  have HA := Lib.hid hA'
  clear hA'
  go_enter Try.func4, Try.ntmps4
  go_wp2_with fail
  refine (roomy_any A c b 91 _ HROW.out (by omega)).mono ?_
  rintro e w1 ⟨rfl, hblk, x1⟩
  have X1 := Lib.hid x1
  have HB := Lib.hid (Blk.row hblk)
  have HT : Hid (Row w1 A' (B8 b)) := Lib.hid (by
    have := cut_row (lo := 0) (hi := b.length) (size := 1) HB.out HA.out (by simp [B8_length, mark80_length])
    simpa [B8, mark80] using this)
  clear hblk x1
  go_wp2_with fail
  go_loopw [7] (fun v7 wr => ∃ i : Nat, v7 = .int .i64 i ∧ i ≤ its.length ∧ Hid (Ext None_ w1 wr)) (fun v7 _ => its.length - (intOf v7).toNat)
  case atStart => exact ⟨0, by go_num, by omega, Lib.hid (Ext.refl _ _)⟩
  case round =>
    obtain ⟨i, rfl, hi, hx⟩ := hrel
    by_cases hlt : i < its.length ∧ i < 100
    · obtain ⟨hlt, h100⟩ := hlt
      obtain ⟨q, ad, hq, ha, hcells, hok⟩ := (HITS _ (X1.out.trans0 hx.out)).out.at_ hlt
      subst ha
      obtain ⟨c0, c1, c2, c3, c4, c5⟩ := hcells
      have HOK := Lib.hid hok
      have HT2 := Lib.hid (HT.out.ext0 hx.out)
      clear hok
      go_wp2_with fail
      refine (putI_any A' (b.length + 80) b q.1 q.2.1 q.2.2 _ HT2.out HOK.out (by omega)).mono ?_
      rintro e w2 ⟨v1, v2, rfl, o1, o2, x2⟩
      obtain ⟨L2, hL2⟩ : ∃ L2, L2 = b ++ encI q.1 := ⟨_, rfl⟩
      have hle : L2.length ≤ 140737488355328 := by
        have := encI_len q.1 HOK.out.len HOK.out.str
        rw [hL2, List.length_append]; omega
      rw [← hL2] at o1 o2
      obtain ⟨A1, cc1, rfl, _, _, r1⟩ := Own.slice o1
      obtain ⟨A2, cc2, rfl, _, _, r2⟩ := Own.slice o2
      have R1 := Lib.hid r1
      have R2 := Lib.hid r2
      have X2 := Lib.hid (hx.out.trans0 x2)
      clear o1 o2 r1 r2 x2 hL2
      go_wp2_with fail
      refine (same_any A1 cc1 L2 A2 cc2 L2 _ R1.out R2.out hle hle).mono ?_
      rintro e w3 ⟨rfl, x3⟩
      rw [decide_eq_true (show L2 = L2 from rfl)]
      have X3 := Lib.hid (X2.out.trans0 x3)
      clear x3
      go_wp2_with fail
      exact ⟨⟨i + 1, by go_num, by omega, X3⟩, by simp [intOf]; omega⟩
    · have hend : ¬ (i < its.length) ∨ (i < its.length ∧ ¬ (i < 100)) := by omega
      have HB2 := Lib.hid (HB.out.ext0 hx.out)
      have HR2 := Lib.hid (HROW.out.ext0 (X1.out.trans0 hx.out))
      have hml := mark80_length b 91
      have HI := Lib.hid (intact_any (some ⟨w.heap.size, 0, none⟩) (b.length + 80) (mark80 b 91) A c b 91 wr HB2.out HR2.out (by omega) (by omega) (by omega))
      rw [hml, decide_eq_true (show mark80 b 91 = mark80 b 91 from rfl)] at HI
      clear hlt
      rcases hend with hge | ⟨hlt, h100⟩
      all_goals
        go_wp2_with fail
        refine HI.out.mono ?_
        rintro e w3 ⟨rfl, x3⟩
        have X3 := Lib.hid (hx.out.trans0 x3)
        clear x3
        go_wp2_with fail
        refine (wireRuns_any _).mono ?_
        rintro e w4 ⟨rfl, x4⟩
        have X4 := Lib.hid ((X1.out.trans0 X3.out).trans0 x4)
        clear x4
        go_wp2_with fail
        go_ret
        exact ⟨rfl, X4.out⟩
end Go.Proofs.Ytmobdofkiddfhaa
