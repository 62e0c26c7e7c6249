/- Package meta, walked: Term, Vote, May, Open. Written by gen_meta2.py. -/
import Derived.Test.YtakcdmmniaipeaaMeta
set_option linter.unusedVariables false
set_option linter.unusedSimpArgs false
namespace Go.Proofs.Ytakcdmmniaipeaa
open Go.RowKit B
theorem mTerm_any (gm g : Nat) (f : Int) (r : Rec) (w : World) (h : MetaB w gm g f r) : Calls Try.prog 18 #[.pointer (some ⟨gm, 0, none⟩)] w fun e w' => e = .returned (.int .i64 r.term) ∧ Ext None_ w w' := by
  have c3 := Blk.cell h 3
  clear h
  go_enter Try.func18, Try.ntmps18
  go_wp2
  go_ret
  exact ⟨rfl, Ext.refl _ _⟩
theorem mVote_any (gm g : Nat) (f : Int) (r : Rec) (w : World) (h : MetaB w gm g f r) : Calls Try.prog 19 #[.pointer (some ⟨gm, 0, none⟩)] w fun e w' => e = .returned (.int .i64 r.vote) ∧ Ext None_ w w' := by
  have c4 := Blk.cell h 4
  clear h
  go_enter Try.func19, Try.ntmps19
  go_wp2
  go_ret
  exact ⟨rfl, Ext.refl _ _⟩
def mayB (term vote t v : Int) : Bool := (decide (term ≤ t) && decide (t ≤ 1099511627776) && decide (-1 ≤ v) && decide (v < 7)) && (decide (term < t) || decide (vote = -1) || decide (v = vote))
set_option maxHeartbeats 4000000 in
theorem may_any (term vote t v : Int) (w : World) : Calls Try.prog 53 #[.int .i64 term, .int .i64 vote, .int .i64 t, .int .i64 v] w fun e w' => e = .returned (.bool (mayB term vote t v)) ∧ Ext None_ w w' := by
  have HX := Lib.hid (Ext.refl None_ w)
  by_cases q0 : t < term
  · have HB : Hid (mayB term vote t v = false) := Lib.hid (by simp [mayB]; omega)
    go_enter Try.func53, Try.ntmps53
    go_wp2_with fail
    go_ret
    exact ⟨by rw [HB.out]; rfl, HX.out⟩
  · skip
    by_cases q1 : 1099511627776 < t
    · have HB : Hid (mayB term vote t v = false) := Lib.hid (by simp [mayB]; omega)
      go_enter Try.func53, Try.ntmps53
      go_wp2_with fail
      go_ret
      exact ⟨by rw [HB.out]; rfl, HX.out⟩
    · skip
      by_cases q2 : v < -1
      · have HB : Hid (mayB term vote t v = false) := Lib.hid (by simp [mayB]; omega)
        go_enter Try.func53, Try.ntmps53
        go_wp2_with fail
        go_ret
        exact ⟨by rw [HB.out]; rfl, HX.out⟩
      · skip
        by_cases q3 : 7 ≤ v
        · have HB : Hid (mayB term vote t v = false) := Lib.hid (by simp [mayB]; omega)
          go_enter Try.func53, Try.ntmps53
          go_wp2_with fail
          go_ret
          exact ⟨by rw [HB.out]; rfl, HX.out⟩
        · skip
          by_cases q4 : term < t
          · have HB : Hid (mayB term vote t v = true) := Lib.hid (by simp [mayB]; omega)
            go_enter Try.func53, Try.ntmps53
            go_wp2_with fail
            go_ret
            exact ⟨by rw [HB.out]; rfl, HX.out⟩
          · skip
            by_cases q5 : vote = -1
            · have HB : Hid (mayB term vote t v = true) := Lib.hid (by simp [mayB]; omega)
              have q5' : (vote == -1) = true := by simp [q5]
              clear q5
              go_enter Try.func53, Try.ntmps53
              go_wp2_with fail
              go_ret
              exact ⟨by rw [HB.out]; rfl, HX.out⟩
            · skip
              by_cases q6 : v = vote
              · have HB : Hid (mayB term vote t v = true) := Lib.hid (by simp [mayB]; omega)
                have q5' : (vote == -1) = false := by simp [q5]
                have q6' : (v == vote) = true := by simp [q6]
                clear q6
                go_enter Try.func53, Try.ntmps53
                go_wp2_with fail
                go_ret
                exact ⟨by rw [HB.out]; rfl, HX.out⟩
              · skip
                have HB : Hid (mayB term vote t v = false) := Lib.hid (by simp [mayB]; omega)
                have q5' : (vote == -1) = false := by simp [q5]
                have q6' : (v == vote) = false := by simp [q6]
                go_enter Try.func53, Try.ntmps53
                go_wp2_with fail
                go_ret
                exact ⟨by rw [HB.out]; rfl, HX.out⟩
structure Mt where
  file : Int
  r : Rec
def pickM (D : DS) (m : Mt) (f : Int) : Mt := match recF (readF D f) with | some r => if m.r.age < r.age then ⟨f, r⟩ else m | none => m
def bestN (D : DS) : Nat → Mt
  | 0 => ⟨1, ⟨0, 0, -1⟩⟩
  | k + 1 => pickM D (bestN D k) k
def sizeF (D : DS) (f : Int) : Nat := if inF f = true then (fileAt D.files f).length else 0
def cutIf (D : DS) (f : Int) : Bool × DS := if 0 < sizeF D f then ((cutD D f 0).1 == 0, (cutD D f 0).2) else (true, D)
def cN (D : DS) : Nat → DS
  | 0 => D
  | j + 1 => (cutIf (cN D j) (2 + (j : Int))).2
def okN (D : DS) : Nat → Bool
  | 0 => true
  | j + 1 => okN D j && (cutIf (cN D j) (2 + (j : Int))).1
def openM (D : DS) : Int × DS :=
  if D.off = true then (11, D) else if okN D 2 = true then (if (syncD (cN D 2)).1 = 0 then (0, (syncD (cN D 2)).2) else (11, (syncD (cN D 2)).2)) else if okN D 1 = true then (11, cN D 2) else (11, cN D 1)
theorem cut_wait (D : DS) (f z : Int) : (cutD D f z).2.wait.length ≤ D.wait.length + 1 := by
  have hw := count_wait D
  unfold cutD
  split
  · split
    · simp [hw]
    · rw [hw]; omega
  · rw [hw]; omega
theorem cN_wait (D : DS) : ∀ j, (cN D j).wait.length ≤ D.wait.length + j
  | 0 => by simp [cN]
  | j + 1 => by
    have := cN_wait D j
    simp only [cN, cutIf]
    split
    · have := cut_wait (cN D j) (2 + (j : Int)) 0
      simp only
      omega
    · simp only
      omega
theorem is_size {w : World} {g : Nat} {D : DS} (h : IsD w g D) (f : Int) : Calls Try.prog 52 #[.pointer (some ⟨g, 0, none⟩), .int .i64 f] w fun e w' => e = .returned (.int .i64 (sizeF D f : Nat)) ∧ Ext None_ w w' := by
  obtain ⟨M, C, h⟩ := h
  exact DSize_any g D M C f w h
theorem size_len {w : World} {g : Nat} {D : DS} (h : IsD w g D) (f : Int) : sizeF D f ≤ 1048576 := by
  obtain ⟨M, C, h⟩ := h
  unfold sizeF
  split
  · rename_i hf
    obtain ⟨h0, h1⟩ := inF_true hf
    obtain ⟨n, rfl⟩ : ∃ n : Nat, f = n := ⟨f.toNat, by omega⟩
    exact h.ok.fl _ (fileAt_mem (by rw [h.ok.f64]; omega))
  · omega
def OpenP (w0 : World) (rs : List (Option Addr × List Int)) (qs : List (Nat × DS)) (g : Nat) (D : DS) (e : Ending) (w' : World) : Prop :=
  if (openM D).1 = 0 then ∃ gm, e = .returned (.tuple #[.pointer (some ⟨gm, 0, none⟩), .int .i64 0]) ∧ MetaB w' gm g (bestN D 2).file (bestN D 2).r ∧ Lw w0 ((some ⟨gm, 0, none⟩, []) :: rs) qs g (openM D).2 w' ∧ w0.heap.size ≤ gm
  else e = .returned (.tuple #[.pointer none, .int .i64 11]) ∧ Lw w0 rs qs g (openM D).2 w'
set_option maxRecDepth 100000 in
set_option maxHeartbeats 8000000 in
theorem open_off (w0 : World) (rs : List (Option Addr × List Int)) (qs : List (Nat × DS)) (g : Nat) (D : DS) (w : World) (h : Lw w0 rs qs g D w) (ho : D.off = true) : Calls Try.prog 17 #[.pointer (some ⟨g, 0, none⟩)] w (OpenP w0 rs qs g D) := by
  have HL := Lib.hid h
  have HO : Hid (openM D = (11, D)) := Lib.hid (by unfold openM; rw [if_pos ho])
  have HOF := Lib.hid ho
  clear h ho
  go_enter Try.func17, Try.ntmps17
  go_wp2_with (go_at_call 29; refine (is_off (Lw.is HL.out)).mono ?_; rintro e w1 ⟨h7, hx1⟩; rw [HOF.out] at h7; subst h7; have HL1 := Lib.hid (HL.out.ext0 hx1); clear hx1)
  go_ret2
  unfold OpenP
  rw [HO.out, if_neg (by simp)]
  exact ⟨rfl, HL1.out⟩
set_option maxRecDepth 100000 in
set_option maxHeartbeats 8000000 in
theorem open_on (w0 : World) (rs : List (Option Addr × List Int)) (qs : List (Nat × DS)) (g : Nat) (D : DS) (w : World) (h : Lw w0 rs qs g D w) (ho : D.off = false) (hwl : D.wait.length ≤ 1000000) : Calls Try.prog 17 #[.pointer (some ⟨g, 0, none⟩)] w (OpenP w0 rs qs g D) := by
  have HL := Lib.hid h
  have HOF := Lib.hid ho
  have HW := Lib.hid (cN_wait D)
  clear h ho
  go_enter Try.func17, Try.ntmps17
  go_wp2_with (go_at_call 29; refine (is_off (Lw.is HL.out)).mono ?_; rintro e w1 ⟨h7, hx1⟩; rw [HOF.out] at h7; subst h7; have HX1 := Lib.hid hx1; clear hx1)
  go_loopw [4, 15] (fun v4 v15 wr => ∃ (k : Nat) (gm : Nat), v4 = .pointer (some ⟨gm, 0, none⟩) ∧ v15 = .int .i64 k ∧ k ≤ 2 ∧ Hid (MetaB wr gm g (bestN D k).file (bestN D k).r) ∧ Hid (w.heap.size ≤ gm) ∧ Hid (Ext None_ w wr)) (fun _ v15 _ => 2 - (intOf v15).toNat)
  case atStart => exact ⟨0, w1.heap.size, rfl, rfl, by omega, Lib.hid (Blk.new w1 _ _), Lib.hid HX1.out.size, Lib.hid (HX1.out.trans0 (x0 _ _))⟩
  case round =>
    obtain ⟨k, gm, rfl, rfl, hk, hmb, hgm, hxr⟩ := hrel
    by_cases hlt : k < 2
    · have hrd := mread_any g D (k : Int) wr (Lw.is (HL.out.ext0 hxr.out))
      have y0 := Blk.cell hmb.out 2
      have HBN : Hid (bestN D (k + 1) = pickM D (bestN D k) k) := Lib.hid rfl
      unfold pickM at HBN
      unfold readP at hrd
      obtain ⟨bm, hbm⟩ : ∃ bm, bm = bestN D k := ⟨_, rfl⟩
      rw [← hbm] at hmb y0 HBN
      cases hrec : recF (readF D (k : Int)) with
      | none =>
        rw [hrec] at hrd HBN
        simp only at hrd HBN
        have HRD := Lib.hid hrd
        clear hrd hrec hbm
        go_wp2_with (go_at_call 51; refine HRD.out.mono ?_; rintro e wB ⟨rfl, hx⟩; have HX := Lib.hid hx; have y2 := hx.cell y0 (fun a => a); clear hx HRD y0)
        refine wp_region_mem [sv _, sv (.bool false), sv (.bool false), sAny, sAny, sAny, sAny, sAny, sAny, sAny, sAny, sAny, sv (.bool false)] (by kernel_rfl) rfl rfl rfl rfl ⟨
          (by
            intro Lq aq wq hd hj Kq hK
            rw [if_pos (wanted_none rfl)]
            have f6 := hj.base 6 rfl rfl
            exact opMove hK rfl (ev f6) rfl),
          (by
            intro Lq aq wq hd hj Kq hK
            rw [if_pos (wanted_none rfl)]
            have f21 := hj.val 0 21 rfl rfl (by simp) rfl (hd ⟨0, .data⟩ (by simp) rfl)
            exact opNeNil hK rfl (ev f21) rfl (by kernel_rfl) rfl),
          (by
            intro Lq aq wq hd hj Kq hK
            rw [if_pos (wanted_none rfl)]
            have f22 := hj.val 1 22 rfl rfl (by simp) rfl (hd ⟨1, .data⟩ (by simp) rfl)
            exact opMove hK rfl (ev f22) rfl),
          (by
            intro Lq aq wq hd hj Kq hK
            have fg := hj.val 2 23 rfl rfl (by simp) rfl (hd ⟨2, .guard⟩ (by simp) rfl)
            rw [wanted_some (c := false) rfl rfl rfl fg, if_neg (by decide)]
            exact trivial),
          (by
            intro Lq aq wq hd hj Kq hK
            have fg := hj.val 2 23 rfl rfl (by simp) rfl (hd ⟨2, .guard⟩ (by simp) rfl)
            rw [wanted_some (c := false) rfl rfl rfl fg, if_neg (by decide)]
            exact trivial),
          (by
            intro Lq aq wq hd hj Kq hK
            have fg := hj.val 2 23 rfl rfl (by simp) rfl (hd ⟨2, .guard⟩ (by simp) rfl)
            rw [wanted_some (c := false) rfl rfl rfl fg, if_neg (by decide)]
            exact trivial),
          (by
            intro Lq aq wq hd hj Kq hK
            have fg := hj.val 2 23 rfl rfl (by simp) rfl (hd ⟨2, .guard⟩ (by simp) rfl)
            rw [wanted_some (c := false) rfl rfl rfl fg, if_neg (by decide)]
            exact trivial),
          (by
            intro Lq aq wq hd hj Kq hK
            have fg := hj.val 2 23 rfl rfl (by simp) rfl (hd ⟨2, .guard⟩ (by simp) rfl)
            rw [wanted_some (c := false) rfl rfl rfl fg, if_neg (by decide)]
            exact trivial),
          (by
            intro Lq aq wq hd hj Kq hK
            have fg := hj.val 2 23 rfl rfl (by simp) rfl (hd ⟨2, .guard⟩ (by simp) rfl)
            rw [wanted_some (c := false) rfl rfl rfl fg, if_neg (by decide)]
            exact trivial),
          (by
            intro Lq aq wq hd hj Kq hK
            have fg := hj.val 2 23 rfl rfl (by simp) rfl (hd ⟨2, .guard⟩ (by simp) rfl)
            rw [wanted_some (c := false) rfl rfl rfl fg, if_neg (by decide)]
            exact trivial),
          (by
            intro Lq aq wq hd hj Kq hK
            have fg := hj.val 2 23 rfl rfl (by simp) rfl (hd ⟨2, .guard⟩ (by simp) rfl)
            rw [wanted_some (c := false) rfl rfl rfl fg, if_neg (by decide)]
            exact trivial),
          (by
            intro Lq aq wq hd hj Kq hK
            have fg := hj.val 2 23 rfl rfl (by simp) rfl (hd ⟨2, .guard⟩ (by simp) rfl)
            rw [wanted_some (c := false) rfl rfl rfl fg, if_neg (by decide)]
            exact trivial),
          (by
            intro Lq aq wq hd hj Kq hK
            rw [if_pos (wanted_none rfl)]
            have f23 := hj.val 2 23 rfl rfl (by simp) rfl (hd ⟨2, .data⟩ (by simp) rfl)
            exact opPick hK rfl (b := false) (ev f23) ((if_neg (by decide)).trans (rfl)) rfl),
          trivial⟩ ?fin
        case fin =>
          intro vs w9 hx hg
          have v12 : vs 12 = _ := hg 12 (by decide)
          have X := Lib.hid ((Ext.refl None_ wB).drew.trans0 hx)
          clear hx hg
          simp only [putAll, v12, Nat.reduceAdd, Nat.zero_add]
          simp only [Act.put, List.setIfInBounds_toArray, List.set_cons_succ, List.set_cons_zero]
          go_wp2_with fail
          go_roundw
          case rel => exact ⟨k + 1, gm, rfl, by go_num, by omega, Lib.hid (by rw [HBN.out]; exact Blk.ext hmb.out (HX.out.trans0 X.out) (fun a => a)), hgm, Lib.hid (hxr.out.trans0 (HX.out.trans0 X.out))⟩
          case measure => simp [intOf]; omega
      | some r =>
        rw [hrec] at hrd HBN
        simp only at hrd HBN
        have HRD := Lib.hid hrd
        clear hrd hrec hbm
        by_cases hage : bm.r.age < r.age
        · rw [if_pos hage] at HBN
          go_wp2_with (go_at_call 51; refine HRD.out.mono ?_; rintro e wB ⟨⟨gx, rfl, hmx, hgx⟩, hx⟩; have HX := Lib.hid hx; have y2 := hx.cell y0 (fun a => a); have x2 := Blk.cell hmx 2; have HMX := Lib.hid hmx; have HGX := Lib.hid hgx; clear hx HRD y0 hmx hgx)
          refine wp_region_mem [sv _, sv (.bool true), sv (.bool true), sv _, sv _, sv _, sv _, sv _, sv _, sv _, sv _, sv (.bool true), sv (.bool true)] (by kernel_rfl) rfl rfl rfl rfl ⟨
            (by
              intro Lq aq wq hd hj Kq hK
              rw [if_pos (wanted_none rfl)]
              have f6 := hj.base 6 rfl rfl
              exact opMove hK rfl (ev f6) rfl),
            (by
              intro Lq aq wq hd hj Kq hK
              rw [if_pos (wanted_none rfl)]
              have f21 := hj.val 0 21 rfl rfl (by simp) rfl (hd ⟨0, .data⟩ (by simp) rfl)
              exact opNeNil hK rfl (ev f21) rfl (by kernel_rfl) rfl),
            (by
              intro Lq aq wq hd hj Kq hK
              rw [if_pos (wanted_none rfl)]
              have f22 := hj.val 1 22 rfl rfl (by simp) rfl (hd ⟨1, .data⟩ (by simp) rfl)
              exact opMove hK rfl (ev f22) rfl),
            (by
              intro Lq aq wq hd hj Kq hK
              have fg := hj.val 2 23 rfl rfl (by simp) rfl (hd ⟨2, .guard⟩ (by simp) rfl)
              rw [wanted_some (c := true) rfl rfl rfl fg, if_pos (by rfl)]
              have f6 := hj.base 6 rfl rfl
              exact opMove hK rfl (ev f6) rfl),
            (by
              intro Lq aq wq hd hj Kq hK
              have fg := hj.val 2 23 rfl rfl (by simp) rfl (hd ⟨2, .guard⟩ (by simp) rfl)
              rw [wanted_some (c := true) rfl rfl rfl fg, if_pos (by rfl)]
              have f24 := hj.val 3 24 rfl rfl (by simp) rfl (hd ⟨3, .data⟩ (by simp) rfl)
              exact opNil hK rfl (ev f24) rfl),
            (by
              intro Lq aq wq hd hj Kq hK
              have fg := hj.val 2 23 rfl rfl (by simp) rfl (hd ⟨2, .guard⟩ (by simp) rfl)
              rw [wanted_some (c := true) rfl rfl rfl fg, if_pos (by rfl)]
              have f25 := hj.val 4 25 rfl rfl (by simp) rfl (hd ⟨4, .data⟩ (by simp) rfl)
              exact opFieldA hK rfl (k := 2) (ev f25) (fun W => by kernel_rfl) rfl),
            (by
              intro Lq aq wq hd hj Kq hK
              have fg := hj.val 2 23 rfl rfl (by simp) rfl (hd ⟨2, .guard⟩ (by simp) rfl)
              rw [wanted_some (c := true) rfl rfl rfl fg, if_pos (by rfl)]
              have f26 := hj.val 5 26 rfl rfl (by simp) rfl (hd ⟨5, .data⟩ (by simp) rfl)
              first
                | exact opLoad hK rfl (ev f26) Try.underlying3 rfl (Ext.cell ((Ext.refl None_ wB).drew.trans0 hj.ext) x2 (fun a => a)) rfl
                | exact opLoad hK rfl (ev f26) Try.underlying3 rfl (Ext.cell ((Ext.refl None_ wB).drew.trans0 hj.ext) y2 (fun a => a)) rfl),
            (by
              intro Lq aq wq hd hj Kq hK
              have fg := hj.val 2 23 rfl rfl (by simp) rfl (hd ⟨2, .guard⟩ (by simp) rfl)
              rw [wanted_some (c := true) rfl rfl rfl fg, if_pos (by rfl)]
              have f4 := hj.base 4 rfl rfl
              exact opMove hK rfl (ev f4) rfl),
            (by
              intro Lq aq wq hd hj Kq hK
              have fg := hj.val 2 23 rfl rfl (by simp) rfl (hd ⟨2, .guard⟩ (by simp) rfl)
              rw [wanted_some (c := true) rfl rfl rfl fg, if_pos (by rfl)]
              have f28 := hj.val 7 28 rfl rfl (by simp) rfl (hd ⟨7, .data⟩ (by simp) rfl)
              exact opNil hK rfl (ev f28) rfl),
            (by
              intro Lq aq wq hd hj Kq hK
              have fg := hj.val 2 23 rfl rfl (by simp) rfl (hd ⟨2, .guard⟩ (by simp) rfl)
              rw [wanted_some (c := true) rfl rfl rfl fg, if_pos (by rfl)]
              have f29 := hj.val 8 29 rfl rfl (by simp) rfl (hd ⟨8, .data⟩ (by simp) rfl)
              exact opFieldA hK rfl (k := 2) (ev f29) (fun W => by kernel_rfl) rfl),
            (by
              intro Lq aq wq hd hj Kq hK
              have fg := hj.val 2 23 rfl rfl (by simp) rfl (hd ⟨2, .guard⟩ (by simp) rfl)
              rw [wanted_some (c := true) rfl rfl rfl fg, if_pos (by rfl)]
              have f30 := hj.val 9 30 rfl rfl (by simp) rfl (hd ⟨9, .data⟩ (by simp) rfl)
              first
                | exact opLoad hK rfl (ev f30) Try.underlying3 rfl (Ext.cell ((Ext.refl None_ wB).drew.trans0 hj.ext) x2 (fun a => a)) rfl
                | exact opLoad hK rfl (ev f30) Try.underlying3 rfl (Ext.cell ((Ext.refl None_ wB).drew.trans0 hj.ext) y2 (fun a => a)) rfl),
            (by
              intro Lq aq wq hd hj Kq hK
              have fg := hj.val 2 23 rfl rfl (by simp) rfl (hd ⟨2, .guard⟩ (by simp) rfl)
              rw [wanted_some (c := true) rfl rfl rfl fg, if_pos (by rfl)]
              have f27 := hj.val 6 27 rfl rfl (by simp) rfl (hd ⟨6, .data⟩ (by simp) rfl)
              have f31 := hj.val 10 31 rfl rfl (by simp) rfl (hd ⟨10, .data⟩ (by simp) rfl)
              exact opBin hK rfl (ev f27) (ev f31) (guardInt _ _ _ _ _ _ _ _ _) (binGt _ _ _ _ _) (congrArg Value.bool (by first | rfl | assumption | (simp; omega) | (simp [*]; done)))),
            (by
              intro Lq aq wq hd hj Kq hK
              rw [if_pos (wanted_none rfl)]
              have f23 := hj.val 2 23 rfl rfl (by simp) rfl (hd ⟨2, .data⟩ (by simp) rfl)
              have f32 := hj.val 11 32 rfl rfl (by simp) rfl (hd ⟨11, .data⟩ (by simp) rfl)
              exact opPick hK rfl (b := true) (ev f23) ((if_pos rfl).trans (ev f32)) rfl),
            trivial⟩ ?fin
          case fin =>
            intro vs w9 hx hg
            have v12 : vs 12 = _ := hg 12 (by decide)
            have X := Lib.hid ((Ext.refl None_ wB).drew.trans0 hx)
            clear hx hg
            simp only [putAll, v12, Nat.reduceAdd, Nat.zero_add]
            simp only [Act.put, List.setIfInBounds_toArray, List.set_cons_succ, List.set_cons_zero]
            go_wp2_with fail
            go_roundw
            case rel => exact ⟨k + 1, gx, rfl, by go_num, by omega, Lib.hid (by rw [HBN.out]; exact Blk.ext HMX.out X.out (fun a => a)), Lib.hid (Nat.le_trans hxr.out.size HGX.out), Lib.hid (hxr.out.trans0 (HX.out.trans0 X.out))⟩
            case measure => simp [intOf]; omega
        · rw [if_neg hage] at HBN
          go_wp2_with (go_at_call 51; refine HRD.out.mono ?_; rintro e wB ⟨⟨gx, rfl, hmx, hgx⟩, hx⟩; have HX := Lib.hid hx; have y2 := hx.cell y0 (fun a => a); have x2 := Blk.cell hmx 2; clear hx HRD y0 hmx hgx)
          refine wp_region_mem [sv _, sv (.bool true), sv (.bool true), sv _, sv _, sv _, sv _, sv _, sv _, sv _, sv _, sv (.bool false), sv (.bool false)] (by kernel_rfl) rfl rfl rfl rfl ⟨
            (by
              intro Lq aq wq hd hj Kq hK
              rw [if_pos (wanted_none rfl)]
              have f6 := hj.base 6 rfl rfl
              exact opMove hK rfl (ev f6) rfl),
            (by
              intro Lq aq wq hd hj Kq hK
              rw [if_pos (wanted_none rfl)]
              have f21 := hj.val 0 21 rfl rfl (by simp) rfl (hd ⟨0, .data⟩ (by simp) rfl)
              exact opNeNil hK rfl (ev f21) rfl (by kernel_rfl) rfl),
            (by
              intro Lq aq wq hd hj Kq hK
              rw [if_pos (wanted_none rfl)]
              have f22 := hj.val 1 22 rfl rfl (by simp) rfl (hd ⟨1, .data⟩ (by simp) rfl)
              exact opMove hK rfl (ev f22) rfl),
            (by
              intro Lq aq wq hd hj Kq hK
              have fg := hj.val 2 23 rfl rfl (by simp) rfl (hd ⟨2, .guard⟩ (by simp) rfl)
              rw [wanted_some (c := true) rfl rfl rfl fg, if_pos (by rfl)]
              have f6 := hj.base 6 rfl rfl
              exact opMove hK rfl (ev f6) rfl),
            (by
              intro Lq aq wq hd hj Kq hK
              have fg := hj.val 2 23 rfl rfl (by simp) rfl (hd ⟨2, .guard⟩ (by simp) rfl)
              rw [wanted_some (c := true) rfl rfl rfl fg, if_pos (by rfl)]
              have f24 := hj.val 3 24 rfl rfl (by simp) rfl (hd ⟨3, .data⟩ (by simp) rfl)
              exact opNil hK rfl (ev f24) rfl),
            (by
              intro Lq aq wq hd hj Kq hK
              have fg := hj.val 2 23 rfl rfl (by simp) rfl (hd ⟨2, .guard⟩ (by simp) rfl)
              rw [wanted_some (c := true) rfl rfl rfl fg, if_pos (by rfl)]
              have f25 := hj.val 4 25 rfl rfl (by simp) rfl (hd ⟨4, .data⟩ (by simp) rfl)
              exact opFieldA hK rfl (k := 2) (ev f25) (fun W => by kernel_rfl) rfl),
            (by
              intro Lq aq wq hd hj Kq hK
              have fg := hj.val 2 23 rfl rfl (by simp) rfl (hd ⟨2, .guard⟩ (by simp) rfl)
              rw [wanted_some (c := true) rfl rfl rfl fg, if_pos (by rfl)]
              have f26 := hj.val 5 26 rfl rfl (by simp) rfl (hd ⟨5, .data⟩ (by simp) rfl)
              first
                | exact opLoad hK rfl (ev f26) Try.underlying3 rfl (Ext.cell ((Ext.refl None_ wB).drew.trans0 hj.ext) x2 (fun a => a)) rfl
                | exact opLoad hK rfl (ev f26) Try.underlying3 rfl (Ext.cell ((Ext.refl None_ wB).drew.trans0 hj.ext) y2 (fun a => a)) rfl),
            (by
              intro Lq aq wq hd hj Kq hK
              have fg := hj.val 2 23 rfl rfl (by simp) rfl (hd ⟨2, .guard⟩ (by simp) rfl)
              rw [wanted_some (c := true) rfl rfl rfl fg, if_pos (by rfl)]
              have f4 := hj.base 4 rfl rfl
              exact opMove hK rfl (ev f4) rfl),
            (by
              intro Lq aq wq hd hj Kq hK
              have fg := hj.val 2 23 rfl rfl (by simp) rfl (hd ⟨2, .guard⟩ (by simp) rfl)
              rw [wanted_some (c := true) rfl rfl rfl fg, if_pos (by rfl)]
              have f28 := hj.val 7 28 rfl rfl (by simp) rfl (hd ⟨7, .data⟩ (by simp) rfl)
              exact opNil hK rfl (ev f28) rfl),
            (by
              intro Lq aq wq hd hj Kq hK
              have fg := hj.val 2 23 rfl rfl (by simp) rfl (hd ⟨2, .guard⟩ (by simp) rfl)
              rw [wanted_some (c := true) rfl rfl rfl fg, if_pos (by rfl)]
              have f29 := hj.val 8 29 rfl rfl (by simp) rfl (hd ⟨8, .data⟩ (by simp) rfl)
              exact opFieldA hK rfl (k := 2) (ev f29) (fun W => by kernel_rfl) rfl),
            (by
              intro Lq aq wq hd hj Kq hK
              have fg := hj.val 2 23 rfl rfl (by simp) rfl (hd ⟨2, .guard⟩ (by simp) rfl)
              rw [wanted_some (c := true) rfl rfl rfl fg, if_pos (by rfl)]
              have f30 := hj.val 9 30 rfl rfl (by simp) rfl (hd ⟨9, .data⟩ (by simp) rfl)
              first
                | exact opLoad hK rfl (ev f30) Try.underlying3 rfl (Ext.cell ((Ext.refl None_ wB).drew.trans0 hj.ext) x2 (fun a => a)) rfl
                | exact opLoad hK rfl (ev f30) Try.underlying3 rfl (Ext.cell ((Ext.refl None_ wB).drew.trans0 hj.ext) y2 (fun a => a)) rfl),
            (by
              intro Lq aq wq hd hj Kq hK
              have fg := hj.val 2 23 rfl rfl (by simp) rfl (hd ⟨2, .guard⟩ (by simp) rfl)
              rw [wanted_some (c := true) rfl rfl rfl fg, if_pos (by rfl)]
              have f27 := hj.val 6 27 rfl rfl (by simp) rfl (hd ⟨6, .data⟩ (by simp) rfl)
              have f31 := hj.val 10 31 rfl rfl (by simp) rfl (hd ⟨10, .data⟩ (by simp) rfl)
              exact opBin hK rfl (ev f27) (ev f31) (guardInt _ _ _ _ _ _ _ _ _) (binGt _ _ _ _ _) (congrArg Value.bool (by first | rfl | assumption | (simp; omega) | (simp [*]; done)))),
            (by
              intro Lq aq wq hd hj Kq hK
              rw [if_pos (wanted_none rfl)]
              have f23 := hj.val 2 23 rfl rfl (by simp) rfl (hd ⟨2, .data⟩ (by simp) rfl)
              have f32 := hj.val 11 32 rfl rfl (by simp) rfl (hd ⟨11, .data⟩ (by simp) rfl)
              exact opPick hK rfl (b := true) (ev f23) ((if_pos rfl).trans (ev f32)) rfl),
            trivial⟩ ?fin
          case fin =>
            intro vs w9 hx hg
            have v12 : vs 12 = _ := hg 12 (by decide)
            have X := Lib.hid ((Ext.refl None_ wB).drew.trans0 hx)
            clear hx hg
            simp only [putAll, v12, Nat.reduceAdd, Nat.zero_add]
            simp only [Act.put, List.setIfInBounds_toArray, List.set_cons_succ, List.set_cons_zero]
            go_wp2_with fail
            go_roundw
            case rel => exact ⟨k + 1, gm, rfl, by go_num, by omega, Lib.hid (by rw [HBN.out]; exact Blk.ext hmb.out (HX.out.trans0 X.out) (fun a => a)), hgm, Lib.hid (hxr.out.trans0 (HX.out.trans0 X.out))⟩
            case measure => simp [intOf]; omega
    · obtain ⟨bm, hbm⟩ : ∃ bm, bm = bestN D k := ⟨_, rfl⟩
      have HBM : Hid (bm = bestN D 2) := Lib.hid (by rw [hbm, show k = 2 by omega])
      rw [← hbm] at hmb
      clear hbm
      have HLP : Hid (Lw w0 ((some ⟨gm, 0, none⟩, []) :: rs) qs g D wr) := Lib.hid (Lw.addRow HL.out hxr.out (Row.nil _ _) (fun ad e => by cases e; exact ⟨hgm.out, hmb.out.lt⟩))
      have HGW : Hid (w0.heap.size ≤ gm) := Lib.hid (Nat.le_trans (Lw.x HL.out).size hgm.out)
      go_wp2_with fail
      go_loopw [7] (fun v7 wr => ∃ (j : Nat), v7 = .int .i64 (2 + (j : Int)) ∧ j ≤ 2 ∧ Hid (okN D j = true) ∧ Hid (MetaB wr gm g bm.file bm.r) ∧ Hid (Lw w0 ((some ⟨gm, 0, none⟩, []) :: rs) qs g (cN D j) wr)) (fun v7 _ => 4 - (intOf v7).toNat)
      case atStart => exact ⟨0, rfl, by omega, Lib.hid rfl, hmb, HLP⟩
      case round =>
        obtain ⟨j, rfl, hj, hok, hmj, hlj⟩ := hrel
        have HPR : Hid (∀ W, Ext (Wr w0 ((some ⟨gm, 0, none⟩, []) :: rs)) wr W → MetaB W gm g bm.file bm.r) := Lib.hid (fun W hx => Blk.ext hmj.out hx (fun h => h.2 _ (List.mem_cons_self ..) _ rfl rfl))
        by_cases hlt2 : j < 2
        · have HN1 : Hid (cN D (j + 1) = (cutIf (cN D j) (2 + (j : Int))).2 ∧ okN D (j + 1) = (okN D j && (cutIf (cN D j) (2 + (j : Int))).1)) := Lib.hid ⟨rfl, rfl⟩
          have hwj := HW.out j
          obtain ⟨E, hE⟩ : ∃ E, E = cN D j := ⟨_, rfl⟩
          have HE := Lib.hid hE
          rw [← hE] at hlj hwj HN1
          unfold cutIf at HN1
          obtain ⟨sz, hsz⟩ : ∃ sz, sz = sizeF E (2 + (j : Int)) := ⟨_, rfl⟩
          have hszl : sz ≤ 1048576 := hsz ▸ size_len (Lw.is hlj.out) (2 + (j : Int))
          rw [← hsz] at HN1
          have HSZ := Lib.hid hsz
          obtain ⟨⟨y, E2⟩, hc⟩ : ∃ r, r = cutD E (2 + (j : Int)) 0 := ⟨_, rfl⟩
          rw [← hc] at HN1
          simp only at HN1
          have HC := Lib.hid hc.symm
          clear hE hsz hc
          by_cases hs : 0 < sz
          · have HN2 : Hid (cN D (j + 1) = E2 ∧ okN D (j + 1) = (okN D j && (y == 0))) := Lib.hid (by have := HN1.out; rwa [if_pos hs] at this)
            clear HN1
            by_cases hy : y = 0
            · subst hy
              go_wp2_with (first
                | (go_at_call 52; refine (is_size (Lw.is hlj.out) (2 + (j : Int))).mono ?_; rw [← HSZ.out]; rintro e wC ⟨rfl, hx⟩; have HL2 := Lib.hid (hlj.out.ext0 hx); have HX2 := Lib.hid hx; clear hx hlj)
                | (go_at_call 26; refine (lw_cutE HL2.out HC.out (by omega)).mono ?_; rintro e wD ⟨rfl, h3, hx⟩; have HL3 := Lib.hid h3; have HX3 := Lib.hid ((ofQ HX2.out).trans hx (fun _ _ h => h)); clear h3 hx HL2))
              go_roundw
              case rel => exact ⟨j + 1, by go_num, by omega, Lib.hid (by rw [HN2.out.2, hok.out]; rfl), Lib.hid (HPR.out _ HX3.out), Lib.hid (by rw [HN2.out.1]; exact HL3.out)⟩
              case measure => simp [intOf]; omega
            · have hy1 : (y != 0) = true := by simp [hy]
              have HOM : Hid (openM D = (11, E2)) := Lib.hid (by
                have h1 := HN2.out.1
                have h2 := HN2.out.2
                have h3 := hok.out
                rw [show (y == 0) = false by simp [hy], Bool.and_false] at h2
                unfold openM
                rw [HOF.out, if_neg (by decide)]
                rcases (show j = 0 ∨ j = 1 by omega) with rfl | rfl
                · have h4 : okN D 2 = false := by show (okN D 1 && _) = false; rw [h2]; rfl
                  rw [h4, if_neg (by decide), h2, if_neg (by decide), h1]
                · rw [h2, if_neg (by decide), h3, if_pos rfl, h1])
              clear hy
              go_wp2_with (first
                | (go_at_call 52; refine (is_size (Lw.is hlj.out) (2 + (j : Int))).mono ?_; rw [← HSZ.out]; rintro e wC ⟨rfl, hx⟩; have HL2 := Lib.hid (hlj.out.ext0 hx); clear hx hlj)
                | (go_at_call 26; refine (lw_cutE HL2.out HC.out (by omega)).mono ?_; rintro e wD ⟨rfl, h3, hx⟩; have HL3 := Lib.hid h3; clear h3 hx HL2))
              go_ret2
              unfold OpenP
              rw [HOM.out, if_neg (by simp)]
              exact ⟨rfl, HL3.out.sub (fun _ h => List.mem_cons_of_mem _ h) (fun _ h => h)⟩
          · have HN2 : Hid (cN D (j + 1) = E ∧ okN D (j + 1) = (okN D j && true)) := Lib.hid (by have := HN1.out; rwa [if_neg hs] at this)
            have hs0 : sz = 0 := by omega
            clear HN1 hs
            go_wp2_with (go_at_call 52; refine (is_size (Lw.is hlj.out) (2 + (j : Int))).mono ?_; rw [← HSZ.out]; rintro e wC ⟨rfl, hx⟩; have HL2 := Lib.hid (hlj.out.ext0 hx); have HX2 := Lib.hid hx; clear hx hlj)
            go_roundw
            case rel => exact ⟨j + 1, by go_num, by omega, Lib.hid (by rw [HN2.out.2, hok.out]; rfl), Lib.hid (HPR.out _ (ofQ HX2.out)), Lib.hid (by rw [HN2.out.1]; exact HL2.out)⟩
            case measure => simp [intOf]; omega
        · have he : j = 2 := by omega
          have hok2 : okN D 2 = true := he ▸ hok.out
          have hlj : Hid (Lw w0 ((some ⟨gm, 0, none⟩, []) :: rs) qs g (cN D 2) wr) := Lib.hid (he ▸ hlj.out)
          obtain ⟨⟨y, E2⟩, hc⟩ : ∃ r, r = syncD (cN D 2) := ⟨_, rfl⟩
          have HC := Lib.hid hc.symm
          have HOM : Hid (openM D = if y = 0 then (0, E2) else (11, E2)) := Lib.hid (by
            unfold openM
            rw [HOF.out, if_neg (by decide), hok2, if_pos rfl, ← hc])
          clear hc hok2 he
          by_cases hy : y = 0
          · have HOM2 : Hid (openM D = (0, E2)) := Lib.hid (HOM.out.trans (if_pos hy))
            subst hy
            go_wp2_with (go_at_call 25; refine (lw_syncE hlj.out HC.out).mono ?_; rintro e wD ⟨rfl, h3, hx⟩; have HL3 := Lib.hid h3; have HX3 := Lib.hid hx; clear h3 hx hlj)
            go_ret2
            unfold OpenP
            rw [HOM2.out, if_pos rfl, ← HBM.out]
            exact ⟨gm, rfl, HPR.out _ HX3.out, HL3.out, HGW.out⟩
          · have hy1 : (y != 0) = true := by simp [hy]
            rw [if_neg hy] at HOM
            clear hy
            go_wp2_with (go_at_call 25; refine (lw_syncE hlj.out HC.out).mono ?_; rintro e wD ⟨rfl, h3, hx⟩; have HL3 := Lib.hid h3; clear h3 hx hlj)
            go_ret2
            unfold OpenP
            rw [HOM.out, if_neg (by simp)]
            exact ⟨rfl, HL3.out.sub (fun _ h => List.mem_cons_of_mem _ h) (fun _ h => h)⟩
theorem open_anyM (w0 : World) (rs : List (Option Addr × List Int)) (qs : List (Nat × DS)) (g : Nat) (D : DS) (w : World) (h : Lw w0 rs qs g D w) (hwl : D.wait.length ≤ 1000000) : Calls Try.prog 17 #[.pointer (some ⟨g, 0, none⟩)] w (OpenP w0 rs qs g D) := by
  cases ho : D.off with
  | true => exact open_off w0 rs qs g D w h ho
  | false => exact open_on w0 rs qs g D w h ho hwl
end Go.Proofs.Ytakcdmmniaipeaa
