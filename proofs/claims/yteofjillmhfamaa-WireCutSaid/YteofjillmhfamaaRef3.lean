/- drayref3, walked: the reference's numbers. -/
import Derived.Test.YteofjillmhfamaaWire6
import Derived.Lib.AppendStr
import Derived.Deep.RegionWith
import Derived.Laws.BytesArg
set_option linter.unusedVariables false
set_option linter.unusedSimpArgs false
namespace Go.Proofs.Yteofjillmhfamaa
open Go.RowKit B






theorem ret3_ {a a' b b' c c' : Int} (h1 : a = a') (h2 : b = b') (h3 : c = c') : Ending.returned (.tuple #[.int .i64 a, .int .i64 b, .int .i64 c]) = .returned (.tuple #[.int .i64 a', .int .i64 b', .int .i64 c']) := by rw [h1, h2, h3]
set_option maxRecDepth 100000 in
set_option maxHeartbeats 2000000 in
theorem number_any (A : Option Addr) (c : Nat) (l : List Int) (p : Nat) (w : World) (hrow : Row w A (B8 l)) (hb : Byt l) (hp : p ≤ l.length) (hlen : l.length ≤ 225000000000000) :
    Calls Try.prog 54 #[.slice A l.length c, .int .i64 p] w fun e w' => e = .returned (.tuple #[.int .i64 (numberR l p).1, .int .i64 (numberR l p).2.1, .int .i64 (numberR l p).2.2]) ∧ w = w' := by
  have H3 := Lib.hid hrow
  have H6 := Lib.hid hb
  clear hrow hb
  go_enter Try.func54, Try.ntmps54
  go_wp2
  go_loop [7, 8, 9, 10] (fun v7 v8 _ _ => ∃ (u k : Nat), v7 = .int .u64 u ∧ v8 = .int .i64 k ∧ k ≤ 9 ∧ p + k ≤ l.length ∧ Hid (u < 2 ^ (7 * k)) ∧ Hid (scan (l.drop p) 0 0 = scan (l.drop (p + k)) k u)) (fun _ v8 _ _ => 10 - (intOf v8).toNat)
  case atStart => exact ⟨0, 0, rfl, rfl, by omega, hp, Lib.hid (by decide), Lib.hid rfl⟩
  case round =>
    obtain ⟨u, k, rfl, rfl, hk, hpk, hu, hsc⟩ := hrel
    by_cases hend : p + k = l.length
    · have HE : Hid (scan (l.drop p) 0 0 = .bad 3) := Lib.hid (by rw [hsc.out, show l.drop (p + k) = [] by rw [hend]; simp, scan_nil])
      have hge : (l.length : Int) ≤ p + k := by omega
      clear hend
      go_wp2
      go_ret3
      rw [numberR_bad HE.out]
      exact ⟨rfl, rfl⟩
    · have hlt : p + k < l.length := by omega
      obtain ⟨x, hxe⟩ : ∃ x, x = l[p + k] := ⟨_, rfl⟩
      have hx0 := H6.out x (by rw [hxe]; exact List.getElem_mem _)
      have HD : Hid (l.drop (p + k) = x :: l.drop (p + k + 1)) := Lib.hid (by rw [hxe]; exact List.drop_eq_getElem_cons hlt)
      obtain ⟨ad, rfl, hc⟩ := H3.out (p + k) (.int .u8 x) (by simp [B8, hxe])
      clear hxe hend
      have hand : Go.bits .and .u8 x 127 = x % 128 := and8_127 x hx0.1 hx0.2
      obtain ⟨hx1, hx2⟩ := hx0
      by_cases hbad : k = 9 ∧ 1 < x
      · obtain ⟨hk9, hx9⟩ := hbad
        have HE : Hid (scan (l.drop p) 0 0 = .bad 4) := Lib.hid (by rw [hsc.out, HD.out, scan_cons, if_pos ⟨hk9, hx9⟩])
        have hb9 : ((k : Int) == 9) = true := by simp; omega
        clear hk9
        go_wp2
        go_ret3
        rw [numberR_bad HE.out]
        exact ⟨rfl, rfl⟩
      · obtain ⟨hor, hlt64⟩ := or_group x u k hx1 hx2 hu.out hk (fun e => by by_cases h : 1 < x; exact absurd ⟨e, h⟩ hbad; omega)
        have HG := Lib.hid (group_lt x u k hx1 hu.out)
        obtain ⟨V, hV⟩ : ∃ V, V = u + (x % 128).toNat * 2 ^ (7 * k) := ⟨_, rfl⟩
        rw [← hV] at hor hlt64 HG
        have HV := Lib.hid hV
        clear hV
        by_cases h128 : 128 ≤ x
        · have hb9 : ((k : Int) == 9) = false := by
            have : k ≠ 9 := fun e => hbad ⟨e, by omega⟩
            simp
            omega
          have HN : Hid (scan (l.drop p) 0 0 = scan (l.drop (p + (k + 1))) (k + 1) V) := Lib.hid (by rw [hsc.out, HD.out, scan_cons, if_neg hbad, if_pos h128, HV.out, Nat.add_assoc])
          have HK : Hid (k + 1 ≤ 9) := Lib.hid (by
            by_cases e : k = 9
            · exact absurd ⟨e, by omega⟩ hbad
            · omega)
          clear hlt64
          go_wp2
          go_round
          case rel => exact ⟨V, k + 1, rfl, by go_num, HK.out, by omega, HG, HN⟩
          case measure => simp [intOf]; omega
        · by_cases hz : x = 0 ∧ 0 < k
          · obtain ⟨hz1, hz2⟩ := hz
            have HE : Hid (scan (l.drop p) 0 0 = .bad 4) := Lib.hid (by rw [hsc.out, HD.out, scan_cons, if_neg hbad, if_neg h128, if_pos ⟨hz1, hz2⟩])
            have hbz : (x == 0) = true := by simp; omega
            have h1x : x ≤ 1 := by omega
            have hk0 : (0 : Int) < k := by omega
            clear hz1 hlt64
            by_cases hk9 : k = 9
            all_goals
              first | have hb9 : ((k : Int) == 9) = true := (by simp; omega) | have hb9 : ((k : Int) == 9) = false := (by simp; omega)
              clear hk9
              go_wp2
              go_ret3
              rw [numberR_bad HE.out]
              exact ⟨rfl, rfl⟩
          · have HE : Hid (scan (l.drop p) 0 0 = .ok (k + 1) V) := Lib.hid (by rw [hsc.out, HD.out, scan_cons, if_neg hbad, if_neg h128, if_neg hz, HV.out])
            have hno : k = 9 → x ≤ 1 := fun e => by
              by_cases h : 1 < x
              · exact absurd ⟨e, h⟩ hbad
              · omega
            by_cases hk9 : k = 9
            all_goals
              first | (have h1x : x ≤ 1 := hno hk9) | skip
              first | have hb9 : ((k : Int) == 9) = true := (by simp; omega) | have hb9 : ((k : Int) == 9) = false := (by simp; omega)
              clear hno hk9 hbad
              by_cases hx0 : x = 0
              all_goals
                first | (have hk0 : (k : Int) ≤ 0 := by (have : ¬ 0 < k := fun h => hz ⟨hx0, h⟩); omega) | skip
                first | have hbz : (x == 0) = true := (by simp; omega) | have hbz : (x == 0) = false := (by simp; omega)
                clear hz hx0
                by_cases hp2 : V % 2 = 0
                · have hand1 : Go.bits .and .u64 (V : Int) 1 = 0 := by rw [and64_one _ (by omega) (by omega)]; omega
                  have HZ : Hid (zag V = (V : Int) / 2) := Lib.hid (by unfold zag; rw [if_pos hp2]; omega)
                  clear hp2
                  go_wp2
                  go_ret3
                  rw [numberR_ok HE.out]
                  refine ⟨ret3_ HZ.out.symm ?_ rfl, rfl⟩
                  simp only
                  omega
                · have hand1 : Go.bits .and .u64 (V : Int) 1 = 1 := by rw [and64_one _ (by omega) (by omega)]; omega
                  have HZ : Hid (zag V = Go.bits .xor .i64 (-1) ((V : Int) / 2)) := Lib.hid (by rw [xor64i_max' _ (by omega) (by omega)]; unfold zag; rw [if_neg hp2]; omega)
                  clear hp2
                  go_wp2
                  go_ret3
                  rw [numberR_ok HE.out]
                  refine ⟨ret3_ HZ.out.symm ?_ rfl, rfl⟩
                  simp only
                  omega
end Go.Proofs.Yteofjillmhfamaa
