/- The book, walked: Stays and Apart. Written by gen_bk4.py. -/
import Derived.Test.YtghkgfeamijefaaBk3
import Derived.Test.YtghkgfeamijefaaDisk10
set_option linter.unusedVariables false
set_option linter.unusedSimpArgs false
namespace Go.Proofs.Ytghkgfeamijefaa
open Go.RowKit B
set_option maxRecDepth 100000 in
set_option maxHeartbeats 8000000 in
theorem Stays_any (w1 : World) (gb : Nat) (K : List Kp) (w : World) (hb : BookAt w1 w gb K) (hK : K.length ≤ 4001) :
    Calls Try.prog 72 #[.pointer (some ⟨gb, 0, none⟩)] w fun e w' => e = .returned (.bool true) ∧ BookAt w1 w' gb K := by
  have HB := Lib.hid hb
  clear hb
  go_enter Try.func72, Try.ntmps72
  go_wp2_with fail
  go_loopw [3] (fun v3 wr => ∃ i : Nat, v3 = .int .i64 i ∧ i ≤ K.length ∧ Hid (BookAt w1 wr gb K)) (fun v3 _ => K.length - (intOf v3).toNat)
  case atStart => exact ⟨0, rfl, by omega, HB⟩
  case round =>
    obtain ⟨i, rfl, hi, hbk⟩ := hrel
    obtain ⟨e1, e2, e3, e4, U1, U2, h, ds, hc⟩ := hbk.out
    clear HB
    by_cases hlt : i < K.length
    · obtain ⟨⟨yv, yl⟩, hy⟩ : ∃ y, K[i]? = some y := ⟨_, List.getElem?_eq_getElem hlt⟩
      obtain ⟨hoy, hyl⟩ := e3 _ (List.mem_of_getElem? hy)
      simp only at hoy hyl
      have HRY0 := own_row' (OwnB.ext hoy e1 (fun k hk e => hoy.blk k hk e))
      obtain ⟨Ay, cy, rfl, hry⟩ := HRY0
      have HRY := Lib.hid hry
      have hdl : i < ds.length := by rw [hc.len]; exact hlt
      obtain ⟨d0, hd⟩ : ∃ d, ds[i]? = some d := ⟨_, List.getElem?_eq_getElem hdl⟩
      obtain ⟨A2, cc2, hd0, hr2, _⟩ := hc.cp i _ d0 hy hd
      simp only at hd0 hr2
      subst hd0
      have HRD := Lib.hid hr2
      obtain ⟨g1, o1, q1, hU1, hq1, hcl1⟩ := hc.t1.cells (by rw [List.length_map]; omega)
      obtain ⟨g2, o2, q2, hU2, hq2, hcl2⟩ := hc.t2.cells (by omega)
      have k1 := hcl1 i (.slice Ay yl.length cy) (by rw [List.getElem?_map, hy]; rfl)
      have k2 := hcl2 i _ hd
      subst hU1 hU2
      have HC := Lib.hid hc
      have c0 := Blk.cell hc.blk 0
      have c1 := Blk.cell hc.blk 1
      have c3 := Blk.cell hc.blk 3
      have HE1 := Lib.hid e1
      have HE3 := Lib.hid e3
      have HE4 := Lib.hid e4
      rw [List.length_map] at c0 c1 hq1
      clear hcl1 hcl2 hc e1 e3 e4 hry hr2 hoy hy hd
      go_wp2_with fail
      refine wp_region_last [sv _, sv _, sv _, sv _, sv _, sv (.bool false), sv _, sv _, sv _, sv _, sv _, sv _, sv _, sv _, sv _, sv _, sv _, sv _, sv _, sv _, sv (.bool true), sv (.bool false), sv (.bool false), sv _, sv _] (by kernel_rfl) rfl rfl rfl rfl rfl (by decide) ⟨
        (by
          intro Lq aq wq hd hj Kq hK
          rw [if_pos (wanted_none rfl)]
          have f0 := hj.base 0 rfl rfl
          exact opMove hK rfl (ev f0) rfl),
        (by
          intro Lq aq wq hd hj Kq hK
          rw [if_pos (wanted_none rfl)]
          have f0 := hj.base 0 rfl rfl
          exact opMove hK rfl (ev f0) rfl),
        (by
          intro Lq aq wq hd hj Kq hK
          rw [if_pos (wanted_none rfl)]
          have f14 := hj.val 1 14 rfl rfl (by simp) rfl (hd ⟨1, .data⟩ (by simp) rfl)
          exact opNil hK rfl (ev f14) rfl),
        (by
          intro Lq aq wq hd hj Kq hK
          rw [if_pos (wanted_none rfl)]
          have f15 := hj.val 2 15 rfl rfl (by simp) rfl (hd ⟨2, .data⟩ (by simp) rfl)
          exact opFieldA hK rfl (k := 3) (ev f15) (fun W => by kernel_rfl) rfl),
        (by
          intro Lq aq wq hd hj Kq hK
          rw [if_pos (wanted_none rfl)]
          have f16 := hj.val 3 16 rfl rfl (by simp) rfl (hd ⟨3, .data⟩ (by simp) rfl)
          first
            | exact opLoad hK rfl (ev f16) Try.underlying4 rfl (Ext.cell ((Ext.refl None_ _).drew.trans0 hj.ext) c0 (fun a => a)) rfl
            | exact opLoad hK rfl (ev f16) Try.underlying4 rfl (Ext.cell ((Ext.refl None_ _).drew.trans0 hj.ext) c1 (fun a => a)) rfl
            | exact opLoad hK rfl (ev f16) Try.underlying4 rfl (Ext.cell ((Ext.refl None_ _).drew.trans0 hj.ext) c3 (fun a => a)) rfl
            | exact opLoad hK rfl (ev f16) Try.underlying4 rfl (Ext.cell ((Ext.refl None_ _).drew.trans0 hj.ext) k1 (fun a => a)) rfl
            | exact opLoad hK rfl (ev f16) Try.underlying4 rfl (Ext.cell ((Ext.refl None_ _).drew.trans0 hj.ext) k2 (fun a => a)) rfl),
        (by
          intro Lq aq wq hd hj Kq hK
          rw [if_pos (wanted_none rfl)]
          have f17 := hj.val 4 17 rfl rfl (by simp) rfl (hd ⟨4, .data⟩ (by simp) rfl)
          exact opMove hK rfl (ev f17) rfl),
        (by
          intro Lq aq wq hd hj Kq hK
          have fg := hj.val 5 18 rfl rfl (by simp) rfl (hd ⟨5, .guard⟩ (by simp) rfl)
          rw [wanted_some (c := false) rfl rfl rfl fg, if_pos (by rfl)]
          have f0 := hj.base 0 rfl rfl
          exact opMove hK rfl (ev f0) rfl),
        (by
          intro Lq aq wq hd hj Kq hK
          have fg := hj.val 5 18 rfl rfl (by simp) rfl (hd ⟨5, .guard⟩ (by simp) rfl)
          rw [wanted_some (c := false) rfl rfl rfl fg, if_pos (by rfl)]
          have f19 := hj.val 6 19 rfl rfl (by simp) rfl (hd ⟨6, .data⟩ (by simp) rfl)
          exact opNil hK rfl (ev f19) rfl),
        (by
          intro Lq aq wq hd hj Kq hK
          have fg := hj.val 5 18 rfl rfl (by simp) rfl (hd ⟨5, .guard⟩ (by simp) rfl)
          rw [wanted_some (c := false) rfl rfl rfl fg, if_pos (by rfl)]
          have f20 := hj.val 7 20 rfl rfl (by simp) rfl (hd ⟨7, .data⟩ (by simp) rfl)
          exact opFieldA hK rfl (k := 0) (ev f20) (fun W => by kernel_rfl) rfl),
        (by
          intro Lq aq wq hd hj Kq hK
          have fg := hj.val 5 18 rfl rfl (by simp) rfl (hd ⟨5, .guard⟩ (by simp) rfl)
          rw [wanted_some (c := false) rfl rfl rfl fg, if_pos (by rfl)]
          have f21 := hj.val 8 21 rfl rfl (by simp) rfl (hd ⟨8, .data⟩ (by simp) rfl)
          first
            | exact opLoad hK rfl (ev f21) Try.underlying59 rfl (Ext.cell ((Ext.refl None_ _).drew.trans0 hj.ext) c0 (fun a => a)) rfl
            | exact opLoad hK rfl (ev f21) Try.underlying59 rfl (Ext.cell ((Ext.refl None_ _).drew.trans0 hj.ext) c1 (fun a => a)) rfl
            | exact opLoad hK rfl (ev f21) Try.underlying59 rfl (Ext.cell ((Ext.refl None_ _).drew.trans0 hj.ext) c3 (fun a => a)) rfl
            | exact opLoad hK rfl (ev f21) Try.underlying59 rfl (Ext.cell ((Ext.refl None_ _).drew.trans0 hj.ext) k1 (fun a => a)) rfl
            | exact opLoad hK rfl (ev f21) Try.underlying59 rfl (Ext.cell ((Ext.refl None_ _).drew.trans0 hj.ext) k2 (fun a => a)) rfl),
        (by
          intro Lq aq wq hd hj Kq hK
          have fg := hj.val 5 18 rfl rfl (by simp) rfl (hd ⟨5, .guard⟩ (by simp) rfl)
          rw [wanted_some (c := false) rfl rfl rfl fg, if_pos (by rfl)]
          have f3 := hj.base 3 rfl rfl
          exact opMove hK rfl (ev f3) rfl),
        (by
          intro Lq aq wq hd hj Kq hK
          have fg := hj.val 5 18 rfl rfl (by simp) rfl (hd ⟨5, .guard⟩ (by simp) rfl)
          rw [wanted_some (c := false) rfl rfl rfl fg, if_pos (by rfl)]
          have f22 := hj.val 9 22 rfl rfl (by simp) rfl (hd ⟨9, .data⟩ (by simp) rfl)
          have f23 := hj.val 10 23 rfl rfl (by simp) rfl (hd ⟨10, .data⟩ (by simp) rfl)
          exact opIndexB hK rfl (j := o1 + i) (ev f22) (ev f23) Try.underlying59 infoSl1 (by omega) (by omega) (by simp) rfl),
        (by
          intro Lq aq wq hd hj Kq hK
          have fg := hj.val 5 18 rfl rfl (by simp) rfl (hd ⟨5, .guard⟩ (by simp) rfl)
          rw [wanted_some (c := false) rfl rfl rfl fg, if_pos (by rfl)]
          have f24 := hj.val 11 24 rfl rfl (by simp) rfl (hd ⟨11, .data⟩ (by simp) rfl)
          first
            | exact opLoad hK rfl (ev f24) Try.underlying22 rfl (Ext.cell ((Ext.refl None_ _).drew.trans0 hj.ext) c0 (fun a => a)) rfl
            | exact opLoad hK rfl (ev f24) Try.underlying22 rfl (Ext.cell ((Ext.refl None_ _).drew.trans0 hj.ext) c1 (fun a => a)) rfl
            | exact opLoad hK rfl (ev f24) Try.underlying22 rfl (Ext.cell ((Ext.refl None_ _).drew.trans0 hj.ext) c3 (fun a => a)) rfl
            | exact opLoad hK rfl (ev f24) Try.underlying22 rfl (Ext.cell ((Ext.refl None_ _).drew.trans0 hj.ext) k1 (fun a => a)) rfl
            | exact opLoad hK rfl (ev f24) Try.underlying22 rfl (Ext.cell ((Ext.refl None_ _).drew.trans0 hj.ext) k2 (fun a => a)) rfl),
        (by
          intro Lq aq wq hd hj Kq hK
          have fg := hj.val 5 18 rfl rfl (by simp) rfl (hd ⟨5, .guard⟩ (by simp) rfl)
          rw [wanted_some (c := false) rfl rfl rfl fg, if_pos (by rfl)]
          have f0 := hj.base 0 rfl rfl
          exact opMove hK rfl (ev f0) rfl),
        (by
          intro Lq aq wq hd hj Kq hK
          have fg := hj.val 5 18 rfl rfl (by simp) rfl (hd ⟨5, .guard⟩ (by simp) rfl)
          rw [wanted_some (c := false) rfl rfl rfl fg, if_pos (by rfl)]
          have f26 := hj.val 13 26 rfl rfl (by simp) rfl (hd ⟨13, .data⟩ (by simp) rfl)
          exact opNil hK rfl (ev f26) rfl),
        (by
          intro Lq aq wq hd hj Kq hK
          have fg := hj.val 5 18 rfl rfl (by simp) rfl (hd ⟨5, .guard⟩ (by simp) rfl)
          rw [wanted_some (c := false) rfl rfl rfl fg, if_pos (by rfl)]
          have f27 := hj.val 14 27 rfl rfl (by simp) rfl (hd ⟨14, .data⟩ (by simp) rfl)
          exact opFieldA hK rfl (k := 1) (ev f27) (fun W => by kernel_rfl) rfl),
        (by
          intro Lq aq wq hd hj Kq hK
          have fg := hj.val 5 18 rfl rfl (by simp) rfl (hd ⟨5, .guard⟩ (by simp) rfl)
          rw [wanted_some (c := false) rfl rfl rfl fg, if_pos (by rfl)]
          have f28 := hj.val 15 28 rfl rfl (by simp) rfl (hd ⟨15, .data⟩ (by simp) rfl)
          first
            | exact opLoad hK rfl (ev f28) Try.underlying59 rfl (Ext.cell ((Ext.refl None_ _).drew.trans0 hj.ext) c0 (fun a => a)) rfl
            | exact opLoad hK rfl (ev f28) Try.underlying59 rfl (Ext.cell ((Ext.refl None_ _).drew.trans0 hj.ext) c1 (fun a => a)) rfl
            | exact opLoad hK rfl (ev f28) Try.underlying59 rfl (Ext.cell ((Ext.refl None_ _).drew.trans0 hj.ext) c3 (fun a => a)) rfl
            | exact opLoad hK rfl (ev f28) Try.underlying59 rfl (Ext.cell ((Ext.refl None_ _).drew.trans0 hj.ext) k1 (fun a => a)) rfl
            | exact opLoad hK rfl (ev f28) Try.underlying59 rfl (Ext.cell ((Ext.refl None_ _).drew.trans0 hj.ext) k2 (fun a => a)) rfl),
        (by
          intro Lq aq wq hd hj Kq hK
          have fg := hj.val 5 18 rfl rfl (by simp) rfl (hd ⟨5, .guard⟩ (by simp) rfl)
          rw [wanted_some (c := false) rfl rfl rfl fg, if_pos (by rfl)]
          have f3 := hj.base 3 rfl rfl
          exact opMove hK rfl (ev f3) rfl),
        (by
          intro Lq aq wq hd hj Kq hK
          have fg := hj.val 5 18 rfl rfl (by simp) rfl (hd ⟨5, .guard⟩ (by simp) rfl)
          rw [wanted_some (c := false) rfl rfl rfl fg, if_pos (by rfl)]
          have f29 := hj.val 16 29 rfl rfl (by simp) rfl (hd ⟨16, .data⟩ (by simp) rfl)
          have f30 := hj.val 17 30 rfl rfl (by simp) rfl (hd ⟨17, .data⟩ (by simp) rfl)
          exact opIndexB hK rfl (j := o2 + i) (ev f29) (ev f30) Try.underlying59 infoSl1 (by omega) (by omega) (by simp) rfl),
        (by
          intro Lq aq wq hd hj Kq hK
          have fg := hj.val 5 18 rfl rfl (by simp) rfl (hd ⟨5, .guard⟩ (by simp) rfl)
          rw [wanted_some (c := false) rfl rfl rfl fg, if_pos (by rfl)]
          have f31 := hj.val 18 31 rfl rfl (by simp) rfl (hd ⟨18, .data⟩ (by simp) rfl)
          first
            | exact opLoad hK rfl (ev f31) Try.underlying22 rfl (Ext.cell ((Ext.refl None_ _).drew.trans0 hj.ext) c0 (fun a => a)) rfl
            | exact opLoad hK rfl (ev f31) Try.underlying22 rfl (Ext.cell ((Ext.refl None_ _).drew.trans0 hj.ext) c1 (fun a => a)) rfl
            | exact opLoad hK rfl (ev f31) Try.underlying22 rfl (Ext.cell ((Ext.refl None_ _).drew.trans0 hj.ext) c3 (fun a => a)) rfl
            | exact opLoad hK rfl (ev f31) Try.underlying22 rfl (Ext.cell ((Ext.refl None_ _).drew.trans0 hj.ext) k1 (fun a => a)) rfl
            | exact opLoad hK rfl (ev f31) Try.underlying22 rfl (Ext.cell ((Ext.refl None_ _).drew.trans0 hj.ext) k2 (fun a => a)) rfl),
        (by
          intro Lq aq wq hd hj Kq hK
          have fg := hj.val 5 18 rfl rfl (by simp) rfl (hd ⟨5, .guard⟩ (by simp) rfl)
          rw [wanted_some (c := false) rfl rfl rfl fg, if_pos (by rfl)]
          have f25 := hj.val 12 25 rfl rfl (by simp) rfl (hd ⟨12, .data⟩ (by simp) rfl)
          have f32 := hj.val 19 32 rfl rfl (by simp) rfl (hd ⟨19, .data⟩ (by simp) rfl)
          exact opCall hK Try.func25 (by kernel_rfl) rfl (args := #[.slice Ay yl.length cy, .slice A2 yl.length cc2]) (by simp [ev f25, ev f32]) ((same_any Ay cy yl A2 cc2 yl _ (HRY.out.ext0 ((Ext.refl None_ _).drew.trans0 hj.ext)) (HRD.out.ext0 ((Ext.refl None_ _).drew.trans0 hj.ext)) hyl hyl).mono fun e w' ⟨h1, h2⟩ => ⟨_, h1, congrArg Value.bool (by simp), h2⟩)),
        (by
          intro Lq aq wq hd hj Kq hK
          have fg := hj.val 5 18 rfl rfl (by simp) rfl (hd ⟨5, .guard⟩ (by simp) rfl)
          rw [wanted_some (c := false) rfl rfl rfl fg, if_pos (by rfl)]
          have f33 := hj.val 20 33 rfl rfl (by simp) rfl (hd ⟨20, .data⟩ (by simp) rfl)
          exact opNot hK rfl (ev f33) rfl),
        (by
          intro Lq aq wq hd hj Kq hK
          rw [if_pos (wanted_none rfl)]
          have f18 := hj.val 5 18 rfl rfl (by simp) rfl (hd ⟨5, .data⟩ (by simp) rfl)
          have f34 := hj.val 21 34 rfl rfl (by simp) rfl (hd ⟨21, .data⟩ (by simp) rfl)
          exact opPick hK rfl (b := false) (ev f18) ((if_neg (by decide)).trans (ev f34)) rfl),
        (by
          intro Lq aq wq hd hj Kq hK
          rw [if_pos (wanted_none rfl)]
          have f13 := hj.val 0 13 rfl rfl (by simp) rfl (hd ⟨0, .data⟩ (by simp) rfl)
          exact opNil hK rfl (ev f13) rfl),
        (by
          intro Lq aq wq hd hj Kq hK
          rw [if_pos (wanted_none rfl)]
          have f36 := hj.val 23 36 rfl rfl (by simp) rfl (hd ⟨23, .data⟩ (by simp) rfl)
          exact opFieldA hK rfl (k := 3) (ev f36) (fun W => by kernel_rfl) rfl),
        trivial⟩ ?fin
      case fin =>
        intro vs w9 hx hg
        have v22 : vs 22 = _ := hg 22 (by decide)
        have v24 : vs 24 = _ := hg 24 (by decide)
        have hxx := (Ext.refl None_ _).drew.trans0 hx
        have HC9 := Lib.hid (HC.out.ext0 hxx)
        have HE9 := Lib.hid (HE1.out.trans0 hxx)
        clear hx hg c0 c1 c3 k1 k2 HC HE1 HRY HRD
        simp only [List.dropLast, List.getLast?, List.getLast, Option.toList, putAll, v22, v24, Nat.reduceAdd, Nat.zero_add]
        simp only [Act.put, List.setIfInBounds_toArray, List.set_cons_succ, List.set_cons_zero]
        have r0 := Blk.cell HC9.out.blk 3
        have rz := Blk.frozen HC9.out.blk
        clear hxx
        go_wp2_with fail
        have HG := Lib.hid (HC9.out.good e2)
        go_roundw
        case rel => exact ⟨i + 1, by go_num, by omega, Lib.hid ⟨HE9.out.setCell (p := ⟨gb, 3, none⟩) (.inl rfl) _, e2, HE3.out, HE4.out, _, _, _, _, HG.out⟩⟩
        case measure => simp [intOf]; omega
    · obtain ⟨B1, b1, rfl, _⟩ := hc.t1.isSl
      have c0 := Blk.cell hc.blk 0
      have c3 := Blk.cell hc.blk 3
      rw [List.length_map] at c0 c3
      clear hc e1 e3 e4
      go_wp2_with fail
      go_ret
      exact ⟨rfl, hbk.out⟩
/-! ### marks -/
def markB (i j : Nat) : Int := ((i : Int) + 1) / 2 ^ (8 * (j % 3)) % 256
set_option maxRecDepth 100000 in
set_option maxHeartbeats 4000000 in
theorem bytes_any (i j : Nat) (w : World) (hi : i ≤ 4611686018427387904) (hj : j ≤ 9223372036854775807) : Calls Try.prog 42 #[.int .i64 i, .int .i64 j] w fun e w' => e = .returned (.int .u8 (markB i j)) ∧ w = w' := by
  go_enter Try.func42, Try.ntmps42
  go_wp2
  go_ret
  exact ⟨rfl, rfl⟩
def markR (i c : Nat) : List Int := (List.range c).map (markB i)
theorem markR_length (i c : Nat) : (markR i c).length = c := by simp [markR]
theorem markR_get (i c j : Nat) (h : j < c) : (markR i c)[j]? = some (markB i j) := by simp [markR, h]
theorem markR_succ (i c : Nat) : markR i (c + 1) = markR i c ++ [markB i c] := by simp [markR, List.range_succ]
abbrev BytesV : Value := .func (.func 42) #[] #[]
/-- A row of which the first j places are marked. -/
def half (i j : Nat) (cur : List Value) : List Value := B8 (markR i j) ++ cur.drop j
theorem half_zero (i : Nat) (cur : List Value) : half i 0 cur = cur := by simp [half, markR, B8]
theorem half_length (i j : Nat) (cur : List Value) (h : j ≤ cur.length) : (half i j cur).length = cur.length := by simp [half, B8, markR_length]; omega
theorem half_set (i j : Nat) (cur : List Value) (h : j < cur.length) : (half i j cur).set j (.int .u8 (markB i j)) = half i (j + 1) cur := by
  unfold half
  have hl : (B8 (markR i j)).length = j := by rw [B8_length, markR_length]
  rw [List.set_append_right _ _ (by omega), hl, Nat.sub_self, markR_succ]
  rw [show cur.drop j = cur[j] :: cur.drop (j + 1) by rw [List.drop_eq_getElem_cons h], List.set_cons_zero]
  simp [B8]
theorem half_full (i : Nat) (cur : List Value) : half i cur.length cur = B8 (markR i cur.length) := by simp [half]
structure FillAt (w1 w : World) (gb : Nat) (K : List Kp) (V1 : Value) (n : Nat) : Prop where
  ext : Ext (fun k => k = gb ∨ ∃ x ∈ K, x.v.ownBlock = some k) w1 w
  blk : ∃ V2 h, Blk w gb #[V1, V2, .int .i64 h, .bool false] 61
  t1 : Tab w V1 (K.map Kp.v)
  done : ∀ (i : Nat) (x : Kp) (k : Nat), i < n → K[i]? = some x → x.v.ownBlock = some k → ∃ c, x.v = .slice (some ⟨k, 0, none⟩) x.l.length c ∧ x.l.length ≤ c ∧ c ≤ maxLen ∧ w.heap[k]? = some (.cells (B8 (markR i c)).toArray 5 (0, 0))
  todo : ∀ (i : Nat) (x : Kp), n ≤ i → K[i]? = some x → OwnB w (fun k => k ≠ gb) x.v x.l
/-- What stays as it is while lists are marked. -/
structure FillK (w1 : World) (gb : Nat) (K : List Kp) (V1 : Value) : Prop where
  lt : gb < w1.heap.size
  own : ∀ x ∈ K, OwnB w1 (fun k => k ≠ gb) x.v x.l
  apart : K.Pairwise (fun x y => ∀ k, x.v.ownBlock = some k → ¬ y.v.ownBlock = some k)
  tb : ∀ k, V1.ownBlock = some k → w1.heap.size ≤ k
theorem FillK.apart2 {w1 : World} {gb : Nat} {K : List Kp} {V1 : Value} (h : FillK w1 gb K V1) {i j : Nat} {x y : Kp} (hi : K[i]? = some x) (hj : K[j]? = some y) (hne : i ≠ j) : ∀ k, x.v.ownBlock = some k → ¬ y.v.ownBlock = some k := by
  obtain ⟨hi1, rfl⟩ := List.getElem?_eq_some_iff.1 hi
  obtain ⟨hj1, rfl⟩ := List.getElem?_eq_some_iff.1 hj
  have hp := List.pairwise_iff_getElem.1 h.apart
  rcases Nat.lt_or_gt_of_ne hne with h | h
  · exact hp i j hi1 hj1 h
  · exact fun k h1 h2 => hp j i hj1 hi1 h k h2 h1
theorem FillAt.step {w1 w w' : World} {gb : Nat} {K : List Kp} {V1 : Value} {n : Nat} (hk : FillK w1 gb K V1) (h : FillAt w1 w gb K V1 n) {x : Kp} (hx : K[n]? = some x) {k c : Nat} (hv : x.v = .slice (some ⟨k, 0, none⟩) x.l.length c) (hlc : x.l.length ≤ c) (hcm : c ≤ maxLen) (hxt : Ext (fun q => q = k) w w') (hm : w'.heap[k]? = some (.cells (B8 (markR n c)).toArray 5 (0, 0))) : FillAt w1 w' gb K V1 (n + 1) := by
  have hob : x.v.ownBlock = some k := by rw [hv]; rfl
  have hmem := List.mem_of_getElem? hx
  have hklt := Own.lt (hk.own x hmem) k hob
  have hkg : k ≠ gb := (hk.own x hmem).blk k hob
  refine ⟨h.ext.trans hxt (fun q _ e => .inr ⟨x, hmem, by have e : q = k := e; rw [e]; exact hob⟩), ?_, h.t1.ext hxt (fun q e e2 => by have := hk.tb q e; have e2 : q = k := e2; omega), fun i y q hi hy hq => ?_, fun i y hi hy => ?_⟩
  · obtain ⟨V2, hh, hb⟩ := h.blk
    exact ⟨V2, hh, hb.ext hxt (fun e => hkg e.symm)⟩
  · rcases Nat.lt_or_ge i n with hin | hin
    · obtain ⟨c', h1, h2, h3, h4⟩ := h.done i y q hin hy hq
      exact ⟨c', h1, h2, h3, hxt.get h4 (fun e => hk.apart2 hx hy (by omega) k hob (by have e : q = k := e; rw [← e]; exact hq))⟩
    · have : i = n := by omega
      subst this
      rw [hx] at hy
      cases hy
      rw [hob] at hq
      cases hq
      exact ⟨c, hv, hlc, hcm, hm⟩
  · exact OwnB.ext (h.todo i y (by omega) hy) hxt (fun q e e2 => hk.apart2 hx hy (by omega) k hob (by have e2 : q = k := e2; rw [← e2]; exact e))
theorem FillAt.skip {w1 w : World} {gb : Nat} {K : List Kp} {V1 : Value} {n : Nat} (h : FillAt w1 w gb K V1 n) {x : Kp} (hx : K[n]? = some x) (hv : x.v.ownBlock = none) : FillAt w1 w gb K V1 (n + 1) := by
  refine ⟨h.ext, h.blk, h.t1, fun i y q hi hy hq => ?_, fun i y hi hy => h.todo i y (by omega) hy⟩
  rcases Nat.lt_or_ge i n with hin | hin
  · exact h.done i y q hin hy hq
  · have : i = n := by omega
    subst this
    rw [hx] at hy
    cases hy
    rw [hv] at hq
    cases hq
theorem FillAt.ext0 {w1 w w' : World} {gb : Nat} {K : List Kp} {V1 : Value} {n : Nat} (h : FillAt w1 w gb K V1 n) (hx : Ext None_ w w') : FillAt w1 w' gb K V1 n := by
  obtain ⟨h1, ⟨V2, hh, h2⟩, h3, h4, h5⟩ := h
  exact ⟨h1.trans0 hx, ⟨V2, hh, h2.ext hx (fun a => a)⟩, h3.ext0 hx, fun i x k a b c => by
    obtain ⟨c', k1, k2, k3, k4⟩ := h4 i x k a b c
    exact ⟨c', k1, k2, k3, hx.get k4 (fun a => a)⟩, fun i x a b => OwnB.ext0 (h5 i x a b) hx⟩
theorem cut_full0 (k : Nat) (n c : Nat) (hn : n ≤ c) : ∀ W : World, (Instr.slice 22 (.slice (some ⟨k, 0, none⟩) n c) none (some (.int .i64 c)) none).run Try.prog W = .ok (.slice (some ⟨k, 0, none⟩) c c) W := by
  obtain ⟨A2, h2, h3⟩ := cut_h (P := Try.prog) 22 5 1 Try.underlying22 infoU8 (some ⟨k, 0, none⟩) n c (c : Int) (by omega) (by omega)
  intro W
  rw [h3 W, h2]
  split <;> simp [Addr.add]
theorem cut_nil0 : ∀ W : World, (Instr.slice 22 (.slice none 0 0) none (some (.int .i64 0)) none).run Try.prog W = .ok (.slice none 0 0) W := by
  obtain ⟨A2, h2, h3⟩ := cut_h (P := Try.prog) 22 5 1 Try.underlying22 infoU8 none 0 0 (0 : Int) (by omega) (by omega)
  intro W
  rw [h3 W, h2]
  rfl
end Go.Proofs.Ytghkgfeamijefaa
