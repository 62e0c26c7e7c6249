/- Package disk, walked: Cut. Written by gen_disk7.py. -/
import Derived.Test.YtghkgfeamijefaaDisk6
set_option linter.unusedVariables false
set_option linter.unusedSimpArgs false
namespace Go.Proofs.Ytghkgfeamijefaa
open Go.RowKit B
theorem DiskAt.fileN {w : World} {M C : Nat → Prop} {g : Nat} {D : DS} (h : DiskAt w M C g D) {l : List Int} {n : Nat} (hl : l = fileAt D.files n) (hn : n < 64) : ∃ bf bs A c A1 cc1, (w.cell? ⟨g, 0, none⟩ = some (.int .i64 D.quota) ∧ w.cell? ⟨g, 1, none⟩ = some (.slice (some ⟨bf, 0, none⟩) 64 64) ∧ w.cell? ⟨g, 2, none⟩ = some (.slice (some ⟨bs, 0, none⟩) 64 64) ∧ w.cell? ⟨g, 3, none⟩ = some (.slice A D.wait.length c)) ∧ (∀ i, w.frozen? ⟨g, i, none⟩ = false) ∧ (∀ i, w.frozen? ⟨bf, i, none⟩ = false) ∧ w.cell? ⟨bf, n, none⟩ = some (.slice A1 l.length cc1) ∧ Hid (Row w A1 (B8 l)) ∧ l.length ≤ cc1 ∧ Hid (Byt l) ∧ l.length ≤ 1048576 := by
  obtain ⟨bf, bs, A, c, ⟨d0, d1, d2, d3, d4, d5⟩, df, hfl, _⟩ := h.cells
  have hf := h.ok.f64
  obtain ⟨A1, cc1, hc1, hr1, hcc1, hcc2, hby1, _⟩ := hfl.file (i := n) (by omega)
  have hm := h.ok.fl _ (fileAt_mem (fs := D.files) (i := n) (by omega))
  obtain ⟨cs, hb, _⟩ := hfl
  rw [← hl] at hc1 hr1 hcc1 hby1 hm
  exact ⟨bf, bs, A, c, A1, cc1, ⟨d0, d1, d2, d3⟩, df, hb.frozen, hc1, hr1, hcc1, hby1, hm⟩
theorem DiskAt.waits {w : World} {M C : Nat → Prop} {g : Nat} {D : DS} {v : Value} (h : DiskAt w M C g D) (c3 : w.cell? ⟨g, 3, none⟩ = some v) : Wts w C M v D.wait ∧ (∀ k, C k → ¬ v.ownBlock = some k) := by
  have hap := h.apart
  obtain ⟨bf, bs, wv, a1, a2, a3, a4, _⟩ := h.lay
  have e := a1.cell 3
  rw [c3] at e
  obtain rfl : v = wv := by simpa using e
  refine ⟨a4, fun k hk hv => ?_⟩
  obtain ⟨pv, _, b2, _⟩ := a4
  exact hap k hk (b2.blk k hv)
def cutOk (D : DS) (f n : Int) : Bool := inF f && (decide (0 ≤ n) && decide (n ≤ (fileAt D.files f).length))
def cutD (D : DS) (f n : Int) : Int × DS := if (countD D).1 = true then (if cutOk (countD D).2 f n = true then (0, { (countD D).2 with files := (countD D).2.files.set f.toNat ((fileAt (countD D).2.files f).take n.toNat), wait := (countD D).2.wait ++ [⟨true, f.toNat, n.toNat, []⟩] }) else (1, (countD D).2)) else (11, (countD D).2)
/-- What a call on a disk leaves. -/
def Left (w w' : World) (M C : Nat → Prop) (g : Nat) (D : DS) : Prop := ∃ M' C', DiskAt w' M' C' g D ∧ Ext M w w' ∧ (∀ k, M' k → M k ∨ w.heap.size ≤ k) ∧ (∀ k, C' k → C k ∨ w.heap.size ≤ k)
theorem Left.same {w w' : World} {M C : Nat → Prop} {g : Nat} {D : DS} (h : DiskAt w' M C g D) (hx : Ext M w w') : Left w w' M C g D := ⟨M, C, h, hx, fun _ h => .inl h, fun _ h => .inl h⟩
set_option maxRecDepth 100000 in
set_option maxHeartbeats 8000000 in
theorem DCut_any (g : Nat) (D : DS) (M C : Nat → Prop) (f z : Int) (w : World) (h : DiskAt w M C g D) (hwl : D.wait.length ≤ 1099511627776) : Calls Try.prog 27 #[.pointer (some ⟨g, 0, none⟩), .int .i64 f, .int .i64 z] w fun e w' => e = .returned (.int .i64 (cutD D f z).1) ∧ Left w w' M C g (cutD D f z).2 := by
  have HC := Lib.hid (counted_any g D M C w h)
  have hg : M g := by obtain ⟨_, _, _, _, _, _, _, _, h6, _⟩ := h.lay; exact h6.1
  have HG := Lib.hid (show ∀ W, Ext (fun k => k = g) w W → Ext M w W from fun W hx => hx.mono (fun k _ e => e ▸ hg))
  have hw2 : (countD D).2.wait.length ≤ 1099511627776 := by unfold countD; split; exact hwl; split <;> exact hwl
  clear h hg hwl
  unfold cutD
  obtain ⟨⟨b, D1⟩, hD⟩ : ∃ y, y = countD D := ⟨_, rfl⟩
  rw [← hD] at HC hw2 ⊢
  clear hD
  simp only at HC hw2 ⊢
  cases b with
  | false =>
    rw [if_neg (by decide)]
    go_enter Try.func27, Try.ntmps27
    go_wp2_with (go_at_call 50; refine HC.out.mono ?_; rintro e wS ⟨rfl, hd1, hx1⟩; have HD1 := Lib.hid hd1; have HX1 := Lib.hid hx1; clear hd1 hx1)
    go_ret
    exact ⟨rfl, Left.same HD1.out (HG.out _ HX1.out)⟩
  | true =>
    rw [if_pos rfl]
    have HTH := Lib.hid (fun W => there_any f W)
    cases hi : inF f with
    | false =>
      rw [if_neg (by simp [cutOk, hi])]
      rw [hi] at HTH
      clear hi
      go_enter Try.func27, Try.ntmps27
      go_wp2_with (first
        | (go_at_call 50; refine HC.out.mono ?_; rintro e wS ⟨rfl, hd1, hx1⟩; have HD1 := Lib.hid hd1; have HX1 := Lib.hid hx1; clear hd1 hx1)
        | (go_at_call 51; refine (HTH.out _).mono ?_; rintro e wT ⟨rfl, hx2⟩; have HX2 := Lib.hid hx2; clear hx2))
      go_ret
      exact ⟨rfl, Left.same (HD1.out.ext0 HX2.out) ((HG.out _ HX1.out).trans0 HX2.out)⟩
    | true =>
      rw [hi] at HTH
      obtain ⟨hf0, hf1⟩ := inF_true hi
      obtain ⟨n, rfl⟩ : ∃ n : Nat, f = n := ⟨f.toNat, by omega⟩
      rw [show (n : Int).toNat = n by omega]
      by_cases hz : z < 0
      · rw [if_neg (by simp [cutOk, hi]; omega)]
        clear hi
        go_enter Try.func27, Try.ntmps27
        go_wp2_with (first
          | (go_at_call 50; refine HC.out.mono ?_; rintro e wS ⟨rfl, hd1, hx1⟩; have HD1 := Lib.hid hd1; have HX1 := Lib.hid hx1; clear hd1 hx1)
          | (go_at_call 51; refine (HTH.out _).mono ?_; rintro e wT ⟨rfl, hx2⟩; have HX2 := Lib.hid hx2; clear hx2))
        go_ret
        exact ⟨rfl, Left.same (HD1.out.ext0 HX2.out) ((HG.out _ HX1.out).trans0 HX2.out)⟩
      · obtain ⟨m, rfl⟩ : ∃ m : Nat, z = m := ⟨z.toNat, by omega⟩
        rw [show (m : Int).toNat = m by omega]
        obtain ⟨l, hl⟩ : ∃ l, l = fileAt D1.files n := ⟨_, rfl⟩
        have HFI := Lib.hid hl
        by_cases hm : l.length < m
        · rw [if_neg (by simp [cutOk, hi, ← hl]; omega)]
          clear hi hl
          go_enter Try.func27, Try.ntmps27
          go_wp2_with (first
            | (go_at_call 50; refine HC.out.mono ?_; rintro e wS ⟨rfl, hd1, hx1⟩; have HD1 := Lib.hid hd1; have HX1 := Lib.hid hx1; clear hd1 hx1)
            | (go_at_call 51; refine (HTH.out _).mono ?_; rintro e wT ⟨rfl, hx2⟩; have HD2 := Lib.hid (HD1.out.ext0 hx2); obtain ⟨bf, bs, A, c, A1, cc1, ⟨d0, d1, d2, d3⟩, df, dfb, hc1, _, hcc1, _, hll⟩ := HD2.out.fileN HFI.out (by omega); have HX2 := Lib.hid hx2; clear hx2))
          go_ret
          exact ⟨rfl, Left.same HD2.out ((HG.out _ HX1.out).trans0 HX2.out)⟩
        · rw [if_pos (by simp [cutOk, hi, ← hl]; omega), ← hl]
          clear hi hl
          go_enter Try.func27, Try.ntmps27
          go_wp2_with (first
            | (go_at_call 50; refine HC.out.mono ?_; rintro e wR ⟨rfl, hd1, hx1⟩; have HD0 := Lib.hid hd1; have HX0 := Lib.hid hx1; clear hd1 hx1)
            | (go_at_call 51; refine (HTH.out _).mono ?_; rintro e wS ⟨rfl, hx2⟩; have HD1 := Lib.hid (HD0.out.ext0 hx2); obtain ⟨bf, bs, A, c, A1, cc1, ⟨d0, d1, d2, d3⟩, df, dfb, hc1, HR1, hcc1, HBY1, hll⟩ := HD1.out.fileN HFI.out (by omega); have HX1 : Hid (Ext M w wS) := Lib.hid ((HG.out _ HX0.out).trans0 hx2); clear hx2))
          obtain ⟨A2, hA2, hcut⟩ := cut_h (P := Try.prog) 22 5 1 Try.underlying22 infoU8 A1 l.length cc1 (m : Int) (by omega) (by omega)
          rw [show (m : Int).toNat = m by omega] at hcut
          have HCUT := Lib.hid hcut
          have HTL : Hid ((l.take m).length = m) := Lib.hid (by rw [List.length_take]; omega)
          have HRT : Hid (∀ W, Ext None_ wS W → Row W A2 (B8 (l.take m))) := Lib.hid (fun W hx => by
            have := cut_row (lo := 0) (hi := m) (size := 1) (HR1.out.ext0 hx) hA2 (by rw [B8_length]; omega)
            simpa [B8, List.map_take] using this)
          clear hcut hA2
          refine wp_region_last [sv (.pointer (some ⟨g, 0, none⟩)), sv (.pointer (some ⟨g, 0, none⟩)), sv (.pointer (some ⟨g, 1, none⟩)), sv (.slice (some ⟨bf, 0, none⟩) 64 64), sv (.int .i64 (n : Int)), sv (.pointer (some ⟨g, 0, none⟩)), sv (.pointer (some ⟨g, 0, none⟩)), sv (.pointer (some ⟨g, 1, none⟩)), sv (.slice (some ⟨bf, 0, none⟩) 64 64), sv (.int .i64 (n : Int)), sv (.pointer (some ⟨bf, n, none⟩)), sv (.slice A1 l.length cc1), sv (.int .i64 (m : Int)), sv (.slice A2 m cc1), sB (fun k => wS.heap.size ≤ k) (l.take m), sv (.pointer (some ⟨bf, n, none⟩))] (by kernel_rfl) rfl rfl rfl rfl rfl (by decide) ⟨?_, ?_, ?_, ?_, ?_, ?_, ?_, ?_, ?_, ?_, ?_, ?_, ?_, ?_, ?_, ?_, trivial⟩ ?_
          · intro L a w1 hd hj K hK
            rw [if_pos (wanted_none rfl)]
            have f0 := hj.base 0 rfl rfl
            exact opMove hK rfl (ev f0) rfl
          · intro L a w1 hd hj K hK
            rw [if_pos (wanted_none rfl)]
            have f29 := hj.val 0 29 rfl rfl (by simp) rfl (hd ⟨0, .data⟩ (by simp) rfl)
            exact opNil hK rfl (ev f29) rfl
          · intro L a w1 hd hj K hK
            rw [if_pos (wanted_none rfl)]
            have f30 := hj.val 1 30 rfl rfl (by simp) rfl (hd ⟨1, .data⟩ (by simp) rfl)
            exact opField hK rfl (ev f30) (fun W => by kernel_rfl) rfl
          · intro L a w1 hd hj K hK
            rw [if_pos (wanted_none rfl)]
            have f31 := hj.val 2 31 rfl rfl (by simp) rfl (hd ⟨2, .data⟩ (by simp) rfl)
            exact opLoad hK rfl (ev f31) Try.underlying59 rfl (((Ext.refl None_ wS).drew.trans0 hj.ext).cell d1 (fun a => a)) rfl
          · intro L a w1 hd hj K hK
            rw [if_pos (wanted_none rfl)]
            have f1 := hj.base 1 rfl rfl
            exact opMove hK rfl (ev f1) rfl
          · intro L a w1 hd hj K hK
            rw [if_pos (wanted_none rfl)]
            have f0 := hj.base 0 rfl rfl
            exact opMove hK rfl (ev f0) rfl
          · intro L a w1 hd hj K hK
            rw [if_pos (wanted_none rfl)]
            have f34 := hj.val 5 34 rfl rfl (by simp) rfl (hd ⟨5, .data⟩ (by simp) rfl)
            exact opNil hK rfl (ev f34) rfl
          · intro L a w1 hd hj K hK
            rw [if_pos (wanted_none rfl)]
            have f35 := hj.val 6 35 rfl rfl (by simp) rfl (hd ⟨6, .data⟩ (by simp) rfl)
            exact opField hK rfl (ev f35) (fun W => by kernel_rfl) rfl
          · intro L a w1 hd hj K hK
            rw [if_pos (wanted_none rfl)]
            have f36 := hj.val 7 36 rfl rfl (by simp) rfl (hd ⟨7, .data⟩ (by simp) rfl)
            exact opLoad hK rfl (ev f36) Try.underlying59 rfl (((Ext.refl None_ wS).drew.trans0 hj.ext).cell d1 (fun a => a)) rfl
          · intro L a w1 hd hj K hK
            rw [if_pos (wanted_none rfl)]
            have f1 := hj.base 1 rfl rfl
            exact opMove hK rfl (ev f1) rfl
          · intro L a w1 hd hj K hK
            rw [if_pos (wanted_none rfl)]
            have f37 := hj.val 8 37 rfl rfl (by simp) rfl (hd ⟨8, .data⟩ (by simp) rfl)
            have f38 := hj.val 9 38 rfl rfl (by simp) rfl (hd ⟨9, .data⟩ (by simp) rfl)
            exact opIndex hK rfl (k := .i64) (i := (n : Int)) (ev f37) (ev f38) Try.underlying59 infoSl (by omega) (by omega) (congrArg (fun z => Value.pointer (some z)) ((add_plain _ _).trans (congrArg (fun z => (⟨bf, z, none⟩ : Addr)) (by omega))))
          · intro L a w1 hd hj K hK
            rw [if_pos (wanted_none rfl)]
            have f39 := hj.val 10 39 rfl rfl (by simp) rfl (hd ⟨10, .data⟩ (by simp) rfl)
            exact opLoad hK rfl (ev f39) Try.underlying22 rfl (((Ext.refl None_ wS).drew.trans0 hj.ext).cell hc1 (fun a => a)) rfl
          · intro L a w1 hd hj K hK
            rw [if_pos (wanted_none rfl)]
            have f2 := hj.base 2 rfl rfl
            exact opMove hK rfl (ev f2) rfl
          · intro L a w1 hd hj K hK
            rw [if_pos (wanted_none rfl)]
            have f40 := hj.val 11 40 rfl rfl (by simp) rfl (hd ⟨11, .data⟩ (by simp) rfl)
            have f41 := hj.val 12 41 rfl rfl (by simp) rfl (hd ⟨12, .data⟩ (by simp) rfl)
            exact opVal hK (by simp [execOp, ev f40, ev f41, run_sliceAt_slice (P := Try.prog) (t := 22) (h := Try.underlying22), HCUT.out]) rfl
          · intro L a w1 hd hj K hK
            rw [if_pos (wanted_none rfl)]
            have f42 := hj.val 13 42 rfl rfl (by simp) rfl (hd ⟨13, .data⟩ (by simp) rfl)
            exact opApp8 hK rfl rfl (A := A2) (c := cc1) (m := l.take m) (by rw [ev f42, HTL.out]) (HRT.out _ ((Ext.refl None_ wS).drew.trans0 hj.ext)) (by rw [HTL.out]; omega) (fun k hk => Nat.le_trans (Ext.size ((Ext.refl None_ wS).drew.trans0 hj.ext)) hk)
          · intro L a w1 hd hj K hK
            rw [if_pos (wanted_none rfl)]
            have f32 := hj.val 3 32 rfl rfl (by simp) rfl (hd ⟨3, .data⟩ (by simp) rfl)
            have f33 := hj.val 4 33 rfl rfl (by simp) rfl (hd ⟨4, .data⟩ (by simp) rfl)
            exact opIndex hK rfl (k := .i64) (i := (n : Int)) (ev f32) (ev f33) Try.underlying59 infoSl (by omega) (by omega) (congrArg (fun z => Value.pointer (some z)) ((add_plain _ _).trans (congrArg (fun z => (⟨bf, z, none⟩ : Addr)) (by omega))))
          intro vs w9 hx hg
          have v15 : vs 15 = .pointer (some ⟨bf, n, none⟩) := hg 15 (by decide)
          have v14 : OwnB w9 (fun k => wS.heap.size ≤ k) (vs 14) (l.take m) := hg 14 (by decide)
          have X := Lib.hid ((Ext.refl None_ wS).drew.trans0 hx)
          obtain ⟨Ax, cx, hvx, _⟩ := Own.slice v14
          rw [HTL.out] at hvx
          rw [hvx] at v14
          clear hx hg
          simp only [List.dropLast, List.getLast?, List.getLast, Option.toList, putAll, v15, hvx, Nat.reduceAdd, Nat.zero_add]
          simp only [Act.put, List.setIfInBounds_toArray, List.set_cons_succ, List.set_cons_zero]
          have hby2 : Byt (l.take m) := fun x hx => HBY1.out x (List.mem_of_mem_take hx)
          obtain ⟨HN1, HN2⟩ := HD1.out.moreC v14 hby2 X.out
          have e1 := X.out.cell d1 (fun a => a)
          have e3 := X.out.cell d3 (fun a => a)
          obtain ⟨HM1, HM2⟩ := HN1.setFile (bs := bs) e1 HN2 (by rw [HTL.out]; omega) n
          have HW0 := Lib.hid HM1
          have hne : g ≠ bf := (HN1.tabs e1 (X.out.cell d2 (fun a => a))).2.2.2.2.2.2.1
          have kb := X.out.cell hc1 (fun a => a)
          have kf : w9.frozen? ⟨bf, n, none⟩ = false := by
            have hh := X.out.block bf (World.block_lt_of_cell? wS ⟨bf, n, none⟩ hc1) (fun a => a)
            have h0 := dfb n
            simp only [World.frozen?, hh] at h0 ⊢
            exact h0
          have kg : ∀ i, w9.frozen? ⟨g, i, none⟩ = false := fun i => by
            have hh := X.out.block g HD1.out.lt (fun a => a)
            have h0 := df i
            simp only [World.frozen?, hh] at h0 ⊢
            exact h0
          have hc3 : (w9.setCell ⟨bf, n, none⟩ (.slice Ax m cx)).cell? ⟨g, 3, none⟩ = some (.slice A D1.wait.length c) := by
            rw [World.cell?_setCell_other _ _ _ _ (by simp [hne])]; exact e3
          have HWT : Hid (∀ o : Obj, Wts ((w9.setCell ⟨bf, n, none⟩ (.slice Ax m cx)).alloc o) (fun k => C k ∨ (Value.slice Ax m cx).ownBlock = some k) M (.slice A D1.wait.length c) D1.wait) := Lib.hid (fun o => (HM1.waits hc3).1.ext ((Ext.refl None_ _).alloc o) (fun _ _ a => a) (fun _ _ a => a))
          have HCN := Lib.hid (HM1.waits hc3).2
          clear HM1 HN1 HN2
          have hqok : (⟨true, n, m, []⟩ : Chg).ok := ⟨by show n < 64; omega, by show m + 0 ≤ 1048576; omega⟩
          have HROW : Hid (Row ((w9.setCell ⟨bf, n, none⟩ (.slice Ax m cx)).alloc (.cells #[.bool true, .int .i64 n, .int .i64 m, .slice none 0 0] 81)) (some ⟨w9.heap.size, 0, none⟩) (chgV ⟨true, n, m, []⟩ (.slice none 0 0))) := Lib.hid (by
            have h9 := (Blk.new (w9.setCell ⟨bf, n, none⟩ (.slice Ax m cx)) #[.bool true, .int .i64 n, .int .i64 m, .slice none 0 0] 81).row
            rw [show (w9.setCell ⟨bf, n, none⟩ (.slice Ax m cx)).heap.size = w9.heap.size by simp [World.setCell]] at h9
            exact h9)
          go_wp2_with (at_builtin; refine appC (by rfl) (.tmp 49) (.tmp 53) (by rfl) (.slice A D1.wait.length c) D1.wait ⟨true, n, m, []⟩ (.slice none 0 0) (by rfl) (HWT.out _) (some ⟨w9.heap.size, 0, none⟩) (by rfl) HROW.out (Sl.nil _ _) HCN.out hw2 ?_; intro v2 w2 hw3 hx3; obtain ⟨HF1, HF2, HF3, hf4, hf5⟩ := (HW0.out.ext0 ((Ext.refl None_ _).alloc _)).setWait (((Ext.refl None_ _).alloc _).cell hc3 (fun a => a)) hqok hw3 hx3; obtain ⟨u3, hu3⟩ := Option.isSome_iff_exists.1 hf4; obtain ⟨pv2, _, q2, _⟩ := hw3; obtain ⟨A3, c4, rfl, _⟩ := Own.slice q2; have HG1 := Lib.hid HF1; have HG2 := Lib.hid HF2; have HG3 := Lib.hid HF3; have hf6 := hf5 3; clear HF1 HF2 HF3 hf4 hf5 hx3 q2)
          go_ret
          have hs9 : wS.heap.size ≤ w9.heap.size := X.out.size
          have hsS : w.heap.size ≤ wS.heap.size := HX1.out.size
          have hg1 := HG1.out
          have hg2 := HG2.out
          have hg3 := HG3.out
          simp only [List.length_append, List.length_singleton] at hg1 hg2 hg3
          refine ⟨rfl, _, _, hg1, ?_, fun k hk => ?_, fun k hk => ?_⟩
          · exact (((HX1.out.trans0 X.out).trans HM2 (fun _ _ h => h)).alloc _).trans hg2 (fun _ _ h => h)
          · rcases hg3 k hk with h | h
            · exact .inl h
            · right; simp [World.setCell] at h; omega
          · rcases hk with h | h
            · exact .inl h
            · right; have := v14.blk k h; omega
end Go.Proofs.Ytghkgfeamijefaa
