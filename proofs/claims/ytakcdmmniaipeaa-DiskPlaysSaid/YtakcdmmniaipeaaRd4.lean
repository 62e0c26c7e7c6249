/- The document's disk, walked: Size, Read, Room, New, Wipe, Sync. Written by gen_rd4.py. -/
import Derived.Test.YtakcdmmniaipeaaRd3
set_option linter.unusedVariables false
set_option linter.unusedSimpArgs false
namespace Go.Proofs.Ytakcdmmniaipeaa
open Go.RowKit B
set_option maxRecDepth 100000 in
set_option maxHeartbeats 4000000 in
theorem rsize_any (w : World) (Z : Nat → Prop) (g : Nat) (D : DS) (f : Int) (h : RD w Z g D) : Calls Try.prog 64 #[.pointer (some ⟨g, 0, none⟩), .int .i64 f] w fun e w' => e = .returned (.int .i64 (if inF f = true then (fileAt D.files f).length else 0 : Nat)) ∧ Ext None_ w w' := by
  have HD := Lib.hid h
  have h64 := h.ok.f64
  clear h
  obtain ⟨b, hb⟩ : ∃ b, b = inF f := ⟨_, rfl⟩
  have HT : Hid (∀ W, Calls Try.prog 80 #[.int .i64 f] W fun e w' => e = .returned (.bool b) ∧ W = w') := Lib.hid (fun W => hb ▸ rfile_any f W)
  rw [← hb]
  cases b with
  | false =>
    rw [if_neg (by simp)]
    clear hb
    go_enter Try.func64, Try.ntmps64
    go_wp2_with fail
    refine (HT.out _).mono ?_
    rintro e w1 ⟨rfl, rfl⟩
    go_wp2_with fail
    go_ret
    exact ⟨rfl, Ext.refl _ _⟩
  | true =>
    obtain ⟨hf0, hf1⟩ := inF_true hb.symm
    obtain ⟨n, rfl⟩ : ∃ n : Nat, f = n := ⟨f.toNat, by omega⟩
    rw [if_pos rfl]
    obtain ⟨l, hl⟩ : ∃ l, l = fileAt D.files n := ⟨_, rfl⟩
    have HL := Lib.hid hl
    rw [← hl]
    clear hl hb
    go_enter Try.func64, Try.ntmps64
    go_wp2_with fail
    refine (HT.out _).mono ?_
    rintro e w1 ⟨rfl, rfl⟩
    go_wp2_with fail
    refine (rnow_any w Z g D HD.out).mono ?_
    rintro e w2 ⟨v', rfl, hr, hx⟩
    obtain ⟨b, c, A, cc, rfl, h1, h2, h3, h4, _⟩ := hr.file (i := n) (by omega)
    rw [← HL.out] at h3 h4
    have HX := Lib.hid hx
    clear hr hx
    go_wp2_with fail
    go_ret
    exact ⟨rfl, HX.out⟩
set_option maxRecDepth 100000 in
set_option maxHeartbeats 4000000 in
theorem rread_any (w : World) (Z : Nat → Prop) (g : Nat) (D : DS) (f : Int) (h : RD w Z g D) : Calls Try.prog 63 #[.pointer (some ⟨g, 0, none⟩), .int .i64 f] w fun e w' => ∃ A c, e = .returned (.slice A (readF D f).length c) ∧ Row w' A (B8 (readF D f)) ∧ Ext None_ w w' := by
  have HD := Lib.hid h
  have h64 := h.ok.f64
  obtain ⟨b0, cx, A0, c2, ⟨c0, c1, c3, c4, c5⟩, cf, _⟩ := h.at_.cells
  have HSM := Lib.hid h.ok.fl
  clear h
  obtain ⟨b, hb⟩ : ∃ b, b = inF f := ⟨_, rfl⟩
  have HT : Hid (∀ W, Calls Try.prog 80 #[.int .i64 f] W fun e w' => e = .returned (.bool b) ∧ W = w') := Lib.hid (fun W => hb ▸ rfile_any f W)
  unfold readF
  rw [← hb]
  cases b with
  | false =>
    rw [show (if D.off = true then ([] : List Int) else if false = true then fileAt D.files f else []) = [] by split <;> simp]
    clear hb
    go_enter Try.func63, Try.ntmps63
    go_wp2_with fail
    refine (HT.out _).mono ?_
    rintro e w1 ⟨rfl, rfl⟩
    go_wp2_with fail
    go_ret
    exact ⟨none, 0, rfl, Row.nil _ _, Ext.refl _ _⟩
  | true =>
    obtain ⟨hf0, hf1⟩ := inF_true hb.symm
    obtain ⟨n, rfl⟩ : ∃ n : Nat, f = n := ⟨f.toNat, by omega⟩
    clear hb
    by_cases ho : D.off = true
    · rw [if_pos ho]
      rw [ho] at c5
      clear ho
      go_enter Try.func63, Try.ntmps63
      go_wp2_with fail
      refine (HT.out _).mono ?_
      rintro e w1 ⟨rfl, rfl⟩
      go_wp2_with fail
      go_ret
      exact ⟨none, 0, rfl, Row.nil _ _, Ext.refl _ _⟩
    · rw [if_neg ho, if_pos rfl]
      rw [show D.off = false by simpa using ho] at c5
      clear ho
      obtain ⟨l, hl⟩ : ∃ l, l = fileAt D.files n := ⟨_, rfl⟩
      have hll : l.length ≤ 1048576 := hl ▸ HSM.out _ (fileAt_mem (by omega))
      have HL := Lib.hid hl
      rw [← hl]
      clear hl
      go_enter Try.func63, Try.ntmps63
      go_wp2_with fail
      refine (HT.out _).mono ?_
      rintro e w1 ⟨rfl, rfl⟩
      go_wp2_with fail
      have HX0 : Hid (Ext None_ w (w.alloc (.cells #[] 5))) := Lib.hid (x0 w _)
      have HO0 : Hid (OwnB (w.alloc (.cells #[] 5)) (fun k => w.heap.size ≤ k) (.slice (some ⟨w.heap.size, 0, none⟩) 0 0) []) := Lib.hid ((Own.made (e := 5) (size := 1) w #[] 0 (by simp [maxLen]) rfl).mono (fun k _ e => by omega))
      refine (rnow_any (w.alloc (.cells #[] 5)) Z g D (HD.out.ext0 HX0.out)).mono ?_
      rintro e w2 ⟨v', rfl, hr, hx⟩
      obtain ⟨b, c, A, cc, rfl, h1, h2, h3, h4, hsl⟩ := hr.file (i := n) (by omega)
      rw [← HL.out] at h3 h4 hsl
      have hrow : Row w2 A (B8 l) := by obtain ⟨_, _, e, q, _⟩ := hsl; cases e; exact q
      have HR := Lib.hid hrow
      have HX := Lib.hid (HX0.out.trans0 hx)
      have HO := Lib.hid (OwnB.ext0 HO0.out hx)
      clear hr hx hsl hrow HO0
      go_wp2_with (at_builtin; refine app8 rfl (.tmp 14) (.tmp 19) rfl (.slice (some ⟨w.heap.size, 0, none⟩) 0 0) [] l A cc rfl rfl HO.out HR.out (by simp; omega) ?_; intro v2 w3 ho2 hx2; have HO2 := Lib.hid ho2; have HX2 := Lib.hid hx2; clear ho2 hx2)
      go_ret
      obtain ⟨A3, c3, rfl, _, _, hr3⟩ := Own.slice HO2.out
      refine ⟨A3, c3, rfl, hr3, HX.out.trans HX2.out (fun k hk e => ?_)⟩
      have e : w.heap.size = k := by simpa [Of, Value.ownBlock] using e
      omega
def sRF (Z : Nat → Prop) (fs : List (List Int)) : SG := ⟨fun u W => RF W Z u fs, fun _ _ _ h hx => h.ext0 hx⟩
set_option maxRecDepth 100000 in
set_option maxHeartbeats 4000000 in
theorem rroom_any (w : World) (Z : Nat → Prop) (g : Nat) (D : DS) (h : RD w Z g D) : Calls Try.prog 65 #[.pointer (some ⟨g, 0, none⟩)] w fun e w' => e = .returned (.int .i64 (D.quota - heldN D.files)) ∧ Ext None_ w w' := by
  have HD := Lib.hid h
  have h64 := h.ok.f64
  have hq0 := h.ok.q0
  have hq1 := h.ok.q1
  have hhb := heldN_bound' h.ok
  obtain ⟨b0, cx, A0, c2, ⟨c0, c1, c3, c4, c5⟩, cf, _⟩ := h.at_.cells
  have HSM := Lib.hid h.ok.fl
  clear h
  go_enter Try.func65, Try.ntmps65
  go_wp2_with fail
  refine wp_region_mem [sv _, sv _, sv _, sv (.int .i64 D.quota), sv _, sRF (Zx w Z) D.files, sv (.int .i64 (heldN D.files)), sv (.int .i64 (D.quota - heldN D.files)), sv (.int .i64 (D.quota - heldN D.files))] (by kernel_rfl) rfl rfl rfl rfl ⟨
    (by
      intro Lq aq wq hd hj Kq hK
      rw [if_pos (wanted_none rfl)]
      have f0 := hj.base 0 rfl rfl
      exact opMove hK rfl (ev f0) rfl),
    (by
      intro Lq aq wq hd hj Kq hK
      rw [if_pos (wanted_none rfl)]
      have f3 := hj.val 0 3 rfl rfl (by simp) rfl (hd ⟨0, .data⟩ (by simp) rfl)
      exact opNil hK rfl (ev f3) rfl),
    (by
      intro Lq aq wq hd hj Kq hK
      rw [if_pos (wanted_none rfl)]
      have f4 := hj.val 1 4 rfl rfl (by simp) rfl (hd ⟨1, .data⟩ (by simp) rfl)
      exact opFieldA hK rfl (k := 2) (ev f4) (fun W => by kernel_rfl) rfl),
    (by
      intro Lq aq wq hd hj Kq hK
      rw [if_pos (wanted_none rfl)]
      have f5 := hj.val 2 5 rfl rfl (by simp) rfl (hd ⟨2, .data⟩ (by simp) rfl)
      first
        | exact opLoad hK rfl (ev f5) Try.underlying3 rfl (Ext.cell ((Ext.refl None_ w).drew.trans0 hj.ext) c3 (fun a => a)) rfl),
    (by
      intro Lq aq wq hd hj Kq hK
      rw [if_pos (wanted_none rfl)]
      have f0 := hj.base 0 rfl rfl
      exact opMove hK rfl (ev f0) rfl),
    (by
      intro Lq aq wq hd hj Kq hK
      rw [if_pos (wanted_none rfl)]
      have f7 := hj.val 4 7 rfl rfl (by simp) rfl (hd ⟨4, .data⟩ (by simp) rfl)
      exact opCall hK Try.func81 (by kernel_rfl) rfl (args := #[.pointer (some ⟨g, 0, none⟩)]) (by simp [ev f7]) ((rnow_any wq Z g D (HD.out.ext0 ((Ext.refl None_ w).drew.trans0 hj.ext))).mono fun e w' ⟨v', h1, h2, h3⟩ => ⟨v', h1, h2.mono (fun k _ h => h.imp id (fun h => Nat.le_trans (Ext.size ((Ext.refl None_ w).drew.trans0 hj.ext)) h)), h3⟩)),
    (by
      intro Lq aq wq hd hj Kq hK
      rw [if_pos (wanted_none rfl)]
      obtain ⟨u8, f8, g8⟩ := hj.at_ 5 8 rfl rfl (by simp) (hd ⟨5, .data⟩ (by simp) rfl)
      exact opCall hK Try.func82 (by kernel_rfl) rfl (args := #[u8]) (by simp [ev f8]) ((used_any wq (Zx w Z) u8 D.files g8 h64 HSM.out).mono fun e w' ⟨h1, h2⟩ => ⟨_, h1, rfl, h2⟩)),
    (by
      intro Lq aq wq hd hj Kq hK
      rw [if_pos (wanted_none rfl)]
      have f6 := hj.val 3 6 rfl rfl (by simp) rfl (hd ⟨3, .data⟩ (by simp) rfl)
      have f9 := hj.val 6 9 rfl rfl (by simp) rfl (hd ⟨6, .data⟩ (by simp) rfl)
      exact opBin hK rfl (ev f6) (ev f9) (guardInt _ _ _ _ _ _ _ _ _) (binSub _ _ _ _ (IntWalk.i64_in _ (by omega))) rfl),
    (by
      intro Lq aq wq hd hj Kq hK
      rw [if_pos (wanted_none rfl)]
      have f10 := hj.val 7 10 rfl rfl (by simp) rfl (hd ⟨7, .data⟩ (by simp) rfl)
      exact opAssign hK rfl (ev f10) rfl),
    trivial⟩ ?fin
  case fin =>
    intro vs w2 hx hg
    have v8 : vs 8 = _ := hg 8 (by decide)
    have X := Lib.hid ((Ext.refl None_ w).drew.trans0 hx)
    clear hx hg
    simp only [putAll, v8, Nat.reduceAdd, Nat.zero_add]
    simp only [Act.put, List.setIfInBounds_toArray, List.set_cons_succ, List.set_cons_zero]
    go_wp2_with fail
    go_ret
    exact ⟨rfl, X.out⟩
theorem RF.ofFls {w : World} {Z : Nat → Prop} {b : Nat} {fs : List (List Int)} (h : Fls w Z b fs) (h64 : fs.length = 64) (hz : Z b) : RF w Z (.slice (some ⟨b, 0, none⟩) 64 64) fs := by
  obtain ⟨cs, h1, h2, h3⟩ := h
  refine ⟨b, 64, cs.toList, by rw [h64], by omega, by simp [maxLen], by rw [Array.length_toList, h2], h1.row, ⟨hz, h1.lt⟩, fun i l u a1 a2 => ?_⟩
  obtain ⟨v, h4, h5⟩ := h3 i l a1
  rw [Array.getElem?_toList, h4] at a2
  cases a2
  exact h5
theorem emptyD_ok {q : Int} (h0 : 0 ≤ q) (h1 : q ≤ 1048576) : (emptyD q).ok := by
  refine ⟨h0, h1, by simp [emptyD], by simp [emptyD], fun l hl => ?_, fun l hl => ?_, Int.le_refl _, by simp [emptyD], fun c hc => by simp [emptyD] at hc⟩
  · rw [(List.mem_replicate.1 hl).2]; simp
  · rw [(List.mem_replicate.1 hl).2]; simp
theorem RD.made {w W : World} {g b1 : Nat} {q : Int} (h0 : 0 ≤ q) (h1 : q ≤ 1048576) (B1 : Blk W b1 made64 22) (Bg : Blk W g #[.slice (some ⟨b1, 0, none⟩) 64 64, .slice none 0 0, .int .i64 q, .int .i64 0, .bool false] 91) (hn : g ≠ b1) (hl : w.heap.size ≤ b1 ∧ w.heap.size ≤ g) :
    RD W (fun k => w.heap.size ≤ k ∧ k < W.heap.size ∧ k ≠ g) g (emptyD q) := by
  refine ⟨⟨⟨_, _, Bg, ?_, RW.nil _ _⟩, fun h => h.2.2 rfl, fun k h => h.2.1⟩, emptyD_ok h0 h1, rfl, by simp [emptyD]⟩
  have h64 : (emptyD q).safe.length = 64 := by simp [emptyD]
  exact RF.ofFls (Fls.made B1) h64 ⟨hl.1, B1.lt, hn.symm⟩
theorem mk64 (W : World) : (Instr.makeSlice 59 (.int .i64 64) (.int .i64 64)).run Try.prog W = .ok (.slice (some ⟨W.heap.size, 0, none⟩) 64 64) (W.alloc (.cells made64 22)) := by
  obtain ⟨i0, hi, hz0, hz1, hz2⟩ := info_parts infoSlZ
  have hr := run_make (P := Try.prog) W 59 22 i0 (.slice none 0 0) Try.underlying59 hi hz0 .i64 .i64 64 64 (by omega) (Int.le_refl _) (by rw [hz2]; omega) (by omega)
  rw [hz1] at hr
  exact hr
set_option maxRecDepth 100000 in
set_option maxHeartbeats 4000000 in
theorem rnew_ok (q : Int) (w : World) (h0 : 0 ≤ q) (h1 : q ≤ 1048576) : Calls Try.prog 31 #[.int .i64 q] w fun e w' => ∃ g, e = .returned (.tuple #[.pointer (some ⟨g, 0, none⟩), .int .i64 0]) ∧ RD w' (fun k => w.heap.size ≤ k ∧ k < w'.heap.size ∧ k ≠ g) g (emptyD q) ∧ w.heap.size ≤ g ∧ Ext None_ w w' := by
  have hmk := mk64
  go_enter Try.func31, Try.ntmps31
  go_wp2
  go_ret2
  refine ⟨_, rfl, RD.made h0 h1 (b1 := w.heap.size) ((Blk.new w _ _).alloc _) ?_ (by omega) (by omega), by omega, ((Ext.refl None_ w).alloc _).alloc _⟩
  exact (by simpa using (Blk.new (w.alloc (.cells made64 22)) _ 91))
theorem rnew_bad (q : Int) (w : World) (h : q < 0 ∨ 1048576 < q) : Calls Try.prog 31 #[.int .i64 q] w fun e w' => e = .returned (.tuple #[.pointer none, .int .i64 1]) ∧ Ext None_ w w' := by
  by_cases h0 : q < 0
  · go_enter Try.func31, Try.ntmps31
    go_wp2
    go_ret2
    exact ⟨rfl, Ext.refl _ _⟩
  · have h1 : 1048576 < q := by omega
    clear h
    go_enter Try.func31, Try.ntmps31
    go_wp2
    go_ret2
    exact ⟨rfl, Ext.refl _ _⟩
set_option maxRecDepth 100000 in
set_option maxHeartbeats 4000000 in
theorem rwipe_any (w : World) (Z : Nat → Prop) (g : Nat) (D : DS) (h : RD w Z g D) : Calls Try.prog 62 #[.pointer (some ⟨g, 0, none⟩)] w fun e w' => ∃ g', e = .returned (.pointer (some ⟨g', 0, none⟩)) ∧ RD w' (fun k => w.heap.size ≤ k ∧ k < w'.heap.size ∧ k ≠ g') g' (emptyD D.quota) ∧ w.heap.size ≤ g' ∧ Ext None_ w w' := by
  have hmk := mk64
  have hq0 := h.ok.q0
  have hq1 := h.ok.q1
  obtain ⟨b0, cx, A0, c2, ⟨c0, c1, c3, c4, c5⟩, cf, _⟩ := h.at_.cells
  clear h
  go_enter Try.func62, Try.ntmps62
  have k3 := fun o => ((Ext.refl None_ w).alloc o).cell c3 (fun a => a)
  have k3d : w.drew.cell? ⟨g, 2, none⟩ = some (.int .i64 D.quota) := c3
  go_wp2_with fail
  go_region
  all_goals go_wp2
  all_goals go_ret
  all_goals
    refine ⟨_, rfl, RD.made hq0 hq1 (b1 := w.heap.size) (((Blk.new w _ _).alloc _).drew) ?_ (by omega) (by omega), by omega, (((Ext.refl None_ w).alloc _).alloc _).drew⟩
    exact (by simpa using (Blk.new (w.alloc (.cells made64 22)) _ 91).drew)
theorem countD_safe (D : DS) : (countD D).2.safe = D.safe ∧ (countD D).2.wait = D.wait ∧ (countD D).2.files = D.files ∧ (countD D).2.quota = D.quota := by
  unfold countD
  split
  · exact ⟨rfl, rfl, rfl, rfl⟩
  · split <;> exact ⟨rfl, rfl, rfl, rfl⟩
theorem countD_ok {D : DS} (h : D.ok) : (countD D).2.ok := by
  have ha0 := h.a0
  have ha1 := h.a1
  unfold countD
  split
  · exact h
  · split
    · exact ⟨h.q0, h.q1, h.f64, h.s64, h.fl, h.sl, by simp only; omega, by simp only; omega, h.chg⟩
    · exact h
/-- What a call leaves of the document's disk. -/
def RLeft (w w' : World) (Z : Nat → Prop) (g : Nat) (D : DS) : Prop := ∃ Z', RD w' Z' g D ∧ Ext (fun k => k = g) w w' ∧ ∀ k, Z' k → Z k ∨ w.heap.size ≤ k
theorem rcount (w : World) (Z : Nat → Prop) (g : Nat) (D : DS) (h : RD w Z g D) : Calls Try.prog 79 #[.pointer (some ⟨g, 0, none⟩)] w fun e w' => e = .returned (.bool (countD D).1) ∧ RD w' Z g (countD D).2 ∧ Ext (fun k => k = g) w w' :=
  (rcounted_any w Z g D h.at_ h.ok.a0 h.ok.a1).mono fun e w' ⟨h1, h2, h3⟩ => ⟨h1, ⟨h2, countD_ok h.ok, by rw [(countD_safe D).2.2.1, (countD_safe D).2.1, (countD_safe D).1]; exact h.fi, by rw [(countD_safe D).2.1]; exact h.len⟩, h3⟩
/-- The files kept, nothing waits. -/
theorem RefAt.sync {w w1 : World} {Z Z1 : Nat → Prop} {g : Nat} {D : DS} {v : Value} (h : RefAt w1 Z g D) (hw : w.heap.size ≤ w1.heap.size) (hg : g < w.heap.size) (hz : ∀ k, Z k → k < w.heap.size) (hv : RF w1 (Zx w Z) v D.files) : RefAt ((w1.setCell ⟨g, 0, none⟩ v).setCell ⟨g, 1, none⟩ (.slice none 0 0)) (Zr w1 (Zx w Z)) g { D with safe := D.files, wait := [] } ∧ Ext (fun k => k = g) w1 ((w1.setCell ⟨g, 0, none⟩ v).setCell ⟨g, 1, none⟩ (.slice none 0 0)) := by
  obtain ⟨⟨fv, wv, h1, h2, h3⟩, h4, h5⟩ := h
  have he : Ext (fun k => k = g) w1 ((w1.setCell ⟨g, 0, none⟩ v).setCell ⟨g, 1, none⟩ (.slice none 0 0)) := ((Ext.refl (fun k => k = g) w1).setCell (p := ⟨g, 0, none⟩) (Or.inl rfl) _).setCell (p := ⟨g, 1, none⟩) (Or.inl rfl) _
  have hn : ∀ k, Zr w1 (Zx w Z) k → ¬ k = g := fun k hk e => by
    subst e
    rcases hk.1 with h | h
    · exact h4 h
    · omega
  have hs := he.size
  exact ⟨⟨⟨v, _, (h1.set 0 v).set 1 _, (hv.mono (fun k hk h => ⟨h, hk⟩)).ext he hn, RW.nil _ _⟩, fun h => hn g h rfl, fun k hk => Nat.lt_of_lt_of_le hk.2 hs⟩, he⟩
set_option maxRecDepth 100000 in
set_option maxHeartbeats 4000000 in
theorem rsync_any (w : World) (Z : Nat → Prop) (g : Nat) (D : DS) (h : RD w Z g D) : Calls Try.prog 58 #[.pointer (some ⟨g, 0, none⟩)] w fun e w' => e = .returned (.int .i64 (syncD D).1) ∧ RLeft w w' Z g (syncD D).2 := by
  have HC := Lib.hid (rcount w Z g D h)
  have hgl := h.at_.lt
  have HZ := Lib.hid h.at_.zlt
  clear h
  unfold syncD
  obtain ⟨⟨b, D1⟩, hD⟩ : ∃ z, z = countD D := ⟨_, rfl⟩
  rw [← hD] at HC ⊢
  clear hD
  simp only at HC ⊢
  cases b with
  | false =>
    rw [if_neg (by decide)]
    go_enter Try.func58, Try.ntmps58
    go_wp2_with fail
    refine HC.out.mono ?_
    rintro e w1 ⟨rfl, hd, hx⟩
    have HD := Lib.hid hd
    have HX := Lib.hid hx
    clear hd hx
    go_wp2_with fail
    go_ret
    exact ⟨rfl, Z, HD.out, HX.out, fun _ h => .inl h⟩
  | true =>
    rw [if_pos rfl]
    go_enter Try.func58, Try.ntmps58
    go_wp2_with fail
    refine HC.out.mono ?_
    rintro e w1 ⟨rfl, hd, hx⟩
    have HD := Lib.hid hd
    have HX := Lib.hid hx
    have hs1 := hx.size
    clear hd hx HC
    go_wp2_with fail
    refine (rnow_any w1 Z g D1 HD.out).mono ?_
    rintro e w2 ⟨v', rfl, hr, hx2⟩
    have hs2 := hx2.size
    have HS := Lib.hid (RefAt.sync (w := w1) (Z1 := Z) (HD.out.at_.ext0 hx2) hs2 (by omega) (fun k hk => by have := HZ.out k hk; omega) hr)
    have HX2 := Lib.hid hx2
    obtain ⟨b0, cx, A0, c2, ⟨c0, c1, c3, c4, c5⟩, cf, _⟩ := (HD.out.at_.ext0 hx2).cells
    obtain ⟨b, c, vs, rfl, _⟩ := id hr
    clear hr hx2
    go_wp2_with fail
    go_ret
    obtain ⟨s1, s2⟩ := HS.out
    refine ⟨rfl, Zr w2 (Zx w1 Z), ⟨s1, ⟨HD.out.ok.q0, HD.out.ok.q1, HD.out.ok.f64, HD.out.ok.f64, HD.out.ok.fl, HD.out.ok.fl, HD.out.ok.a0, HD.out.ok.a1, fun c hc => by simp at hc⟩, rfl, by simp⟩, (HX.out.trans0 HX2.out).trans s2 (fun _ _ h => h), fun k hk => ?_⟩
    rcases hk.1 with h | h
    · exact .inl h
    · exact .inr (by omega)
end Go.Proofs.Ytakcdmmniaipeaa
