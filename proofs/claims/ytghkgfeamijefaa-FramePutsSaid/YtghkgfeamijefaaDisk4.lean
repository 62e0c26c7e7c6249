/- Package disk, walked: Room, Read, counted, Arm, fresh, New, Wipe. Written by gen_disk4.py. -/
import Derived.Test.YtghkgfeamijefaaDisk3
import Derived.Test.YtghkgfeamijefaaReg3
set_option linter.unusedVariables false
set_option linter.unusedSimpArgs false
namespace Go.Proofs.Ytghkgfeamijefaa
open Go.RowKit B
theorem call_of {P : Program} {f : FuncId} {args : Array Value} {w : World} {v : Value} (h : Calls P f args w fun e w' => e = .returned v ∧ Ext None_ w w') : Calls P f args w fun e w' => ∃ u, e = .returned u ∧ (sv v).p u w' ∧ Ext None_ w w' := h.mono fun _ _ ⟨h1, h2⟩ => ⟨v, h1, rfl, h2⟩
set_option maxRecDepth 100000 in
set_option maxHeartbeats 4000000 in
theorem DRoom_any (g : Nat) (D : DS) (M C : Nat → Prop) (w : World) (h : DiskAt w M C g D) : Calls Try.prog 28 #[.pointer (some ⟨g, 0, none⟩)] w fun e w' => e = .returned (.int .i64 (D.quota - heldN D.files)) ∧ Ext None_ w w' := by
  obtain ⟨bf, bs, A, c, ⟨c0, c1, c2, c3, c4, c5⟩, cf, _⟩ := h.cells
  have hq0 := h.ok.q0
  have hq1 := h.ok.q1
  have hb := heldN_bound D.files 64 h.ok.fl h.ok.f64
  rw [List.take_of_length_le (by have := h.ok.f64; omega)] at hb
  have HD := Lib.hid h
  clear h
  go_enter Try.func28, Try.ntmps28
  go_wp2_with fail
  refine wp_region_mem [sv (.pointer (some ⟨g, 0, none⟩)), sv (.pointer (some ⟨g, 0, none⟩)), sv (.pointer (some ⟨g, 0, none⟩)), sv (.int .i64 D.quota), sv (.pointer (some ⟨g, 0, none⟩)), sv (.int .i64 (heldN D.files)), sv (.int .i64 (D.quota - heldN D.files)), sv (.int .i64 (D.quota - heldN D.files))] (by kernel_rfl) rfl rfl rfl rfl ⟨?_, ?_, ?_, ?_, ?_, ?_, ?_, ?_, trivial⟩ ?_
  · intro L a w1 hd hj K hK
    rw [if_pos (wanted_none rfl)]
    have f0 := hj.base 0 rfl rfl
    exact opMove hK rfl (ev f0) rfl
  · intro L a w1 hd hj K hK
    rw [if_pos (wanted_none rfl)]
    have f3 := hj.val 0 3 rfl rfl (by simp) rfl (hd ⟨0, .data⟩ (by simp) rfl)
    exact opNil hK rfl (ev f3) rfl
  · intro L a w1 hd hj K hK
    rw [if_pos (wanted_none rfl)]
    have f4 := hj.val 1 4 rfl rfl (by simp) rfl (hd ⟨1, .data⟩ (by simp) rfl)
    exact opField hK rfl (ev f4) (fun W => by kernel_rfl) rfl
  · intro L a w1 hd hj K hK
    rw [if_pos (wanted_none rfl)]
    have f5 := hj.val 2 5 rfl rfl (by simp) rfl (hd ⟨2, .data⟩ (by simp) rfl)
    exact opLoad hK rfl (ev f5) Try.underlying3 rfl (((Ext.refl None_ w).drew.trans0 hj.ext).cell c0 (fun a => a)) rfl
  · intro L a w1 hd hj K hK
    rw [if_pos (wanted_none rfl)]
    have f0 := hj.base 0 rfl rfl
    exact opMove hK rfl (ev f0) rfl
  · intro L a w1 hd hj K hK
    rw [if_pos (wanted_none rfl)]
    have f7 := hj.val 4 7 rfl rfl (by simp) rfl (hd ⟨4, .data⟩ (by simp) rfl)
    exact opCall hK Try.func52 (by kernel_rfl) rfl (args := #[.pointer (some ⟨g, 0, none⟩)]) (by simp [ev f7]) (call_of (held_any g D M C _ (HD.out.ext0 ((Ext.refl None_ w).drew.trans0 hj.ext))))
  · intro L a w1 hd hj K hK
    rw [if_pos (wanted_none rfl)]
    have f6 := hj.val 3 6 rfl rfl (by simp) rfl (hd ⟨3, .data⟩ (by simp) rfl)
    have f8 := hj.val 5 8 rfl rfl (by simp) rfl (hd ⟨5, .data⟩ (by simp) rfl)
    exact opBin hK rfl (ev f6) (ev f8) (guardInt _ _ _ _ _ _ _ _ _) (binSub _ _ _ _ (IntWalk.i64_in _ (by omega))) rfl
  · intro L a w1 hd hj K hK
    rw [if_pos (wanted_none rfl)]
    have f9 := hj.val 6 9 rfl rfl (by simp) rfl (hd ⟨6, .data⟩ (by simp) rfl)
    exact opAssign hK rfl (ev f9) rfl
  intro vs w9 hx hg
  have v7 : vs 7 = .int .i64 (D.quota - heldN D.files) := hg 7 (by simp)
  have X := Lib.hid ((Ext.refl None_ w).drew.trans0 hx)
  clear hx hg
  simp only [putAll, v7, Nat.reduceAdd, Nat.zero_add]
  simp only [Act.put, List.setIfInBounds_toArray, List.set_cons_succ, List.set_cons_zero]
  go_wp2_with fail
  go_ret
  exact ⟨rfl, X.out⟩
theorem ext_of_nil {w w1 : World} {v : Value} (h : Ext (Of v) w w1) (hv : v.ownBlock = none) : Ext None_ w w1 := h.mono (fun k _ e => by simp [Of, hv] at e)
theorem own_late {w w0 w1 : World} {v v1 : Value} {l : List Int} (h : OwnB w1 (From v w0.heap.size) v1 l) (hv : v.ownBlock = none) (hw : w.heap.size ≤ w0.heap.size) : OwnB w1 (fun k => w.heap.size ≤ k) v1 l := OwnB.mono h (fun k _ e => by
  rcases e with e | e
  · rw [hv] at e; cases e
  · omega)
def readF (D : DS) (f : Int) : List Int := if D.off = true then [] else if inF f = true then fileAt D.files f else []
set_option maxRecDepth 100000 in
set_option maxHeartbeats 4000000 in
theorem DRead_any (g : Nat) (D : DS) (M C : Nat → Prop) (f : Int) (w : World) (h : DiskAt w M C g D) : Calls Try.prog 24 #[.pointer (some ⟨g, 0, none⟩), .int .i64 f] w fun e w' => ∃ v', e = .returned v' ∧ OwnB w' (fun k => w.heap.size ≤ k) v' (readF D f) ∧ Ext None_ w w' := by
  obtain ⟨bf, bs, A, c, ⟨c0, c1, c2, c3, c4, c5⟩, cf, hfl, _⟩ := h.cells
  have h64 := h.ok.f64
  have HM := Lib.hid (fun (k : Nat) (hk : k < 64) => h.ok.fl _ (fileAt_mem (fs := D.files) (i := k) (by omega)))
  clear h
  obtain ⟨b, hb⟩ : ∃ b, b = inF f := ⟨_, rfl⟩
  have HT : ∀ W, Calls Try.prog 51 #[.int .i64 f] W fun e w' => e = .returned (.bool b) ∧ Ext None_ W w' := fun W => hb ▸ there_any f W
  unfold readF
  rw [← hb]
  obtain ⟨o, ho⟩ : ∃ o, o = D.off := ⟨_, rfl⟩
  rw [← ho] at c5 ⊢
  clear ho
  cases o with
  | true =>
    rw [if_pos rfl]
    clear hb hfl
    go_enter Try.func24, Try.ntmps24
    go_wp2
    go_ret
    exact ⟨_, rfl, OwnB.nil _ _, Ext.refl _ _⟩
  | false =>
    rw [if_neg (by decide)]
    cases b with
    | false =>
      rw [if_neg (by decide)]
      clear hb hfl
      go_enter Try.func24, Try.ntmps24
      go_wp2_with (go_at_call 51; refine (HT _).mono ?_; rintro e w1 ⟨rfl, hx1⟩)
      go_ret
      exact ⟨_, rfl, OwnB.nil _ _, hx1⟩
    | true =>
      obtain ⟨hf0, hf1⟩ := inF_true hb.symm
      obtain ⟨n, rfl⟩ : ∃ n : Nat, f = n := ⟨f.toNat, by omega⟩
      rw [if_pos rfl]
      have HFL := Lib.hid (fun W (hx : Ext None_ w W) => (hfl.ext hx (fun a => a) (fun _ _ a => a)).file (i := n) (by omega))
      have hl := HM.out n (by omega)
      obtain ⟨l, hl'⟩ : ∃ l, l = fileAt D.files n := ⟨_, rfl⟩
      rw [← hl'] at HFL hl ⊢
      clear hfl hl' hb
      go_enter Try.func24, Try.ntmps24
      go_wp2_with (first
        | (go_at_call 51; refine (HT _).mono ?_; rintro e w1 ⟨rfl, hx1⟩; obtain ⟨A1, cc1, hc1, hr1, _⟩ := HFL.out _ hx1; have HR1 := Lib.hid hr1; have HX1 := Lib.hid hx1; have d1 := hx1.cell c1 (fun a => a); clear hx1 hr1)
        | (at_builtin; refine app8 rfl (.const (.slice none 0 0)) (.tmp 20) rfl (.slice none 0 0) [] l A1 cc1 rfl rfl (OwnB.nil _ (fun _ => False)) HR1.out (by simp; omega) ?_; intro v2 w2 ho2 hx2; have HO2 := Lib.hid ho2; have HX2 := Lib.hid hx2; clear ho2 hx2))
      go_ret
      exact ⟨_, rfl, own_late HO2.out rfl HX1.out.size, HX1.out.trans0 (ext_of_nil HX2.out rfl)⟩
/-! ### what is written into the disk's own block -/
theorem DiskAt.setArm {w : World} {M C : Nat → Prop} {g : Nat} {D : DS} (h : DiskAt w M C g D) (n : Int) (h0 : 0 ≤ n) (h1 : n ≤ 9223372036854775807) : DiskAt (w.setCell ⟨g, 4, none⟩ (.int .i64 n)) M C g { D with armed := n } := by
  obtain ⟨k, ⟨bf, bs, wv, a1, a2, a3, a4, a5, a6, a7⟩, k3, k4, k5⟩ := h
  have he : Ext (fun k => k = g) w (w.setCell ⟨g, 4, none⟩ (.int .i64 n)) := (Ext.refl (fun k => k = g) w).setCell (p := ⟨g, 4, none⟩) (Or.inl rfl) _
  have hC : ∀ k, C k → ¬ k = g := fun k hk e => k3 k hk (e ▸ a6.1)
  exact ⟨⟨k.q0, k.q1, k.f64, k.s64, k.fl, k.sl, h0, h1, k.chg⟩, ⟨bf, bs, wv, a1.set 4 _, a2.ext he (fun e => a5.1 e.symm) hC, a3.ext he (fun e => a5.2.1 e.symm) hC, a4.ext he (fun k hk => (a7 k hk).1) hC, a5, a6, a7⟩, k3, fun k hk => Nat.lt_of_lt_of_le (k4 k hk) he.size, fun k hk => Nat.lt_of_lt_of_le (k5 k hk) he.size⟩
theorem DiskAt.setOff {w : World} {M C : Nat → Prop} {g : Nat} {D : DS} (h : DiskAt w M C g D) (b : Bool) : DiskAt (w.setCell ⟨g, 5, none⟩ (.bool b)) M C g { D with off := b } := by
  obtain ⟨k, ⟨bf, bs, wv, a1, a2, a3, a4, a5, a6, a7⟩, k3, k4, k5⟩ := h
  have he : Ext (fun k => k = g) w (w.setCell ⟨g, 5, none⟩ (.bool b)) := (Ext.refl (fun k => k = g) w).setCell (p := ⟨g, 5, none⟩) (Or.inl rfl) _
  have hC : ∀ k, C k → ¬ k = g := fun k hk e => k3 k hk (e ▸ a6.1)
  exact ⟨⟨k.q0, k.q1, k.f64, k.s64, k.fl, k.sl, k.a0, k.a1, k.chg⟩, ⟨bf, bs, wv, a1.set 5 _, a2.ext he (fun e => a5.1 e.symm) hC, a3.ext he (fun e => a5.2.1 e.symm) hC, a4.ext he (fun k hk => (a7 k hk).1) hC, a5, a6, a7⟩, k3, fun k hk => Nat.lt_of_lt_of_le (k4 k hk) he.size, fun k hk => Nat.lt_of_lt_of_le (k5 k hk) he.size⟩
def countD (D : DS) : Bool × DS := if D.off = true then (false, D) else if 0 < D.armed then (!(D.armed - 1 == 0), { D with armed := D.armed - 1, off := D.armed - 1 == 0 }) else (true, D)
theorem ext_g4 (w : World) (g : Nat) (u v : Value) : Ext (fun k => k = g) w ((w.setCell ⟨g, 4, none⟩ u).setCell ⟨g, 5, none⟩ v) := ((Ext.refl (fun k => k = g) w).setCell (p := ⟨g, 4, none⟩) (Or.inl rfl) _).setCell (p := ⟨g, 5, none⟩) (Or.inl rfl) _
set_option maxRecDepth 100000 in
set_option maxHeartbeats 4000000 in
theorem counted_any (g : Nat) (D : DS) (M C : Nat → Prop) (w : World) (h : DiskAt w M C g D) : Calls Try.prog 50 #[.pointer (some ⟨g, 0, none⟩)] w fun e w' => e = .returned (.bool (countD D).1) ∧ DiskAt w' M C g (countD D).2 ∧ Ext (fun k => k = g) w w' := by
  obtain ⟨bf, bs, A, c, ⟨c0, c1, c2, c3, c4, c5⟩, cf, _⟩ := h.cells
  have HD := Lib.hid h
  have ha0 := h.ok.a0
  have ha1 := h.ok.a1
  clear h
  unfold countD
  by_cases ho : D.off = true
  · rw [if_pos ho]
    rw [ho] at c5
    clear ho
    go_enter Try.func50, Try.ntmps50
    go_wp2
    go_ret
    exact ⟨rfl, HD.out, Ext.refl _ _⟩
  · rw [if_neg ho]
    rw [show D.off = false by simpa using ho] at c5
    have HO := Lib.hid ho
    clear ho
    by_cases ha : 0 < D.armed
    · rw [if_pos ha]
      have HU := Lib.hid ((HD.out.setArm (D.armed - 1) (by omega) (by omega)).setOff (D.armed - 1 == 0))
      go_enter Try.func50, Try.ntmps50
      go_wp2
      go_ret
      exact ⟨rfl, HU.out, ext_g4 _ _ _ _⟩
    · rw [if_neg ha]
      go_enter Try.func50, Try.ntmps50
      go_wp2
      go_ret
      exact ⟨rfl, HD.out, Ext.refl _ _⟩
def armD (D : DS) (n : Int) : DS := if D.off = true then D else { D with armed := max n 0 }
set_option maxRecDepth 100000 in
set_option maxHeartbeats 4000000 in
theorem DArm_any (g : Nat) (D : DS) (M C : Nat → Prop) (n : Int) (hn : n ≤ 9223372036854775807) (w : World) (h : DiskAt w M C g D) : Calls Try.prog 22 #[.pointer (some ⟨g, 0, none⟩), .int .i64 n] w fun e w' => e = .returned (.tuple #[]) ∧ DiskAt w' M C g (armD D n) ∧ Ext (fun k => k = g) w w' := by
  obtain ⟨bf, bs, A, c, ⟨c0, c1, c2, c3, c4, c5⟩, cf, _⟩ := h.cells
  have HD := Lib.hid h
  clear h
  unfold armD
  by_cases ho : D.off = true
  · rw [if_pos ho]
    rw [ho] at c5
    clear ho
    go_enter Try.func22, Try.ntmps22
    go_wp2
    go_end0
    exact ⟨rfl, HD.out, Ext.refl _ _⟩
  · rw [if_neg ho]
    rw [show D.off = false by simpa using ho] at c5
    clear ho
    have HU := Lib.hid (HD.out.setArm (max n 0) (by omega) (by omega))
    go_enter Try.func22, Try.ntmps22
    go_wp2
    all_goals
      go_end0
      refine ⟨rfl, ?_, (Ext.refl (fun k => k = g) w).setCell (p := ⟨g, 4, none⟩) (Or.inl rfl) _⟩
      have hu := HU.out
      first
        | (rw [show max n 0 = n by omega] at hu ⊢; exact hu)
        | (rw [show max n 0 = 0 by omega] at hu ⊢; exact hu)
def made64 : Array Value := madeCells #[.slice none 0 0] 64
def emptyD (q : Int) : DS := ⟨q, List.replicate 64 [], List.replicate 64 [], [], 0, false⟩
theorem made64_list : made64.toList = List.replicate 64 (.slice none 0 0) := toList_madeCells_one _ _
theorem Fls.made {W : World} {C : Nat → Prop} {b : Nat} (h : Blk W b made64 22) : Fls W C b (List.replicate 64 []) := by
  refine ⟨made64, h, ?_, fun i l hi => ⟨.slice none 0 0, ?_, ?_⟩⟩
  · rw [← Array.length_toList, made64_list]; simp
  · rw [← Array.getElem?_toList, made64_list, List.getElem?_replicate]
    rw [List.getElem?_replicate] at hi
    split at hi
    · rename_i hlt; rw [if_pos hlt]
    · cases hi
  · have : l = [] := by
      rw [List.getElem?_replicate] at hi
      split at hi
      · exact (Option.some.inj hi).symm
      · cases hi
    rw [this]
    exact Sl.nil _ _
theorem DiskAt.made {w W : World} {g b1 b2 : Nat} {q : Int} (h0 : 0 ≤ q) (h1 : q ≤ 1048576) (B1 : Blk W b1 made64 22) (B2 : Blk W b2 made64 22) (Bg : Blk W g #[.int .i64 q, .slice (some ⟨b1, 0, none⟩) 64 64, .slice (some ⟨b2, 0, none⟩) 64 64, .slice none 0 0, .int .i64 0, .bool false] 78) (hn : g ≠ b1 ∧ g ≠ b2 ∧ b1 ≠ b2) (hl : w.heap.size ≤ b1 ∧ w.heap.size ≤ b2 ∧ w.heap.size ≤ g) :
    DiskAt W (fun k => w.heap.size ≤ k ∧ k < W.heap.size) None_ g (emptyD q) := by
  refine ⟨⟨h0, h1, by simp [emptyD], by simp [emptyD], fun l hl => ?_, fun l hl => ?_, Int.le_refl _, by simp [emptyD], fun c hc => by simp [emptyD] at hc⟩, ⟨b1, b2, .slice none 0 0, Bg, Fls.made B1, Fls.made B2, Wts.nil _ _ _, hn, ⟨⟨hl.2.2, Bg.lt⟩, ⟨hl.1, B1.lt⟩, ⟨hl.2.1, B2.lt⟩⟩, fun k hk => by simp [Value.ownBlock] at hk⟩, fun k hk => hk.elim, fun k hk => hk.2, fun k hk => hk.elim⟩
  · rw [(List.mem_replicate.1 hl).2]; simp
  · rw [(List.mem_replicate.1 hl).2]; simp
set_option maxRecDepth 100000 in
set_option maxHeartbeats 4000000 in
theorem fresh_any (q : Int) (w : World) (h0 : 0 ≤ q) (h1 : q ≤ 1048576) : Calls Try.prog 49 #[.int .i64 q] w fun e w' => ∃ g, e = .returned (.pointer (some ⟨g, 0, none⟩)) ∧ DiskAt w' (fun k => w.heap.size ≤ k ∧ k < w'.heap.size) None_ g (emptyD q) ∧ Ext None_ w w' := by
  obtain ⟨i0, hi, hz0, hz1, hz2⟩ := info_parts (show (Try.prog.info? 22).map (fun i => (i.zero, i.size, i.bytes)) = some (some (.slice none 0 0), 1, 24) by kernel_rfl)
  have hmk : ∀ W : World, (Instr.makeSlice 59 (.int .i64 64) (.int .i64 64)).run Try.prog W = .ok (.slice (some ⟨W.heap.size, 0, none⟩) 64 64) (W.alloc (.cells made64 22)) := by
    intro W
    have hr := run_make (P := Try.prog) W 59 22 i0 (.slice none 0 0) Try.underlying59 hi hz0 .i64 .i64 64 64 (by omega) (Int.le_refl _) (by rw [hz2]; omega) (by omega)
    rw [hz1] at hr
    exact hr
  clear hi hz0 hz1 hz2 i0
  go_enter Try.func49, Try.ntmps49
  go_wp2_with fail
  go_region
  all_goals go_wp2
  all_goals go_ret
  · refine ⟨_, rfl, DiskAt.made h0 h1 (b1 := w.heap.size) (b2 := w.heap.size + 1) ?_ ?_ ?_ (by omega) (by omega), (((Ext.refl None_ w).alloc _).alloc _).alloc _ |>.drew⟩
    · exact (((Blk.new w _ _).alloc _).alloc _).drew
    · exact (by simpa using ((Blk.new (w.alloc (.cells made64 22)) made64 22).alloc _).drew)
    · exact (by simpa using (Blk.new ((w.alloc (.cells made64 22)).alloc (.cells made64 22)) _ 78).drew)
  · refine ⟨_, rfl, DiskAt.made h0 h1 (b1 := w.heap.size + 1) (b2 := w.heap.size) ?_ ?_ ?_ (by omega) (by omega), (((Ext.refl None_ w).alloc _).alloc _).alloc _ |>.drew⟩
    · exact (by simpa using ((Blk.new (w.alloc (.cells made64 22)) made64 22).alloc _).drew)
    · exact (((Blk.new w _ _).alloc _).alloc _).drew
    · exact (by simpa using (Blk.new ((w.alloc (.cells made64 22)).alloc (.cells made64 22)) _ 78).drew)
set_option maxRecDepth 100000 in
set_option maxHeartbeats 4000000 in
theorem DNew_ok (q : Int) (w : World) (h0 : 0 ≤ q) (h1 : q ≤ 1048576) : Calls Try.prog 15 #[.int .i64 q] w fun e w' => ∃ g, e = .returned (.tuple #[.pointer (some ⟨g, 0, none⟩), .int .i64 0]) ∧ DiskAt w' (fun k => w.heap.size ≤ k ∧ k < w'.heap.size) None_ g (emptyD q) ∧ Ext None_ w w' := by
  have HF := fun W => fresh_any q W h0 h1
  go_enter Try.func15, Try.ntmps15
  go_wp2_with (go_at_call 49; refine (HF _).mono ?_; rintro e w1 ⟨g, rfl, hd, hx⟩; have HD := Lib.hid hd; have HX := Lib.hid hx; clear hd hx)
  go_ret2
  exact ⟨g, rfl, HD.out, HX.out⟩
theorem DNew_bad (q : Int) (w : World) (h : q < 0 ∨ 1048576 < q) : Calls Try.prog 15 #[.int .i64 q] w fun e w' => e = .returned (.tuple #[.pointer none, .int .i64 1]) ∧ Ext None_ w w' := by
  by_cases h0 : q < 0
  · go_enter Try.func15, Try.ntmps15
    go_wp2
    go_ret2
    exact ⟨rfl, Ext.refl _ _⟩
  · have h1 : 1048576 < q := by omega
    clear h
    go_enter Try.func15, Try.ntmps15
    go_wp2
    go_ret2
    exact ⟨rfl, Ext.refl _ _⟩
set_option maxRecDepth 100000 in
set_option maxHeartbeats 4000000 in
theorem DWipe_any (g : Nat) (D : DS) (M C : Nat → Prop) (w : World) (h : DiskAt w M C g D) : Calls Try.prog 63 #[.pointer (some ⟨g, 0, none⟩)] w fun e w' => ∃ g', e = .returned (.pointer (some ⟨g', 0, none⟩)) ∧ DiskAt w' (fun k => w.heap.size ≤ k ∧ k < w'.heap.size) None_ g' (emptyD D.quota) ∧ Ext None_ w w' := by
  obtain ⟨bf, bs, A, c, ⟨c0, c1, c2, c3, c4, c5⟩, cf, _⟩ := h.cells
  have HF := fun W => fresh_any D.quota W h.ok.q0 h.ok.q1
  clear h
  go_enter Try.func63, Try.ntmps63
  go_wp2_with (go_at_call 49; refine (HF _).mono ?_; rintro e w1 ⟨g', rfl, hd, hx⟩; have HD := Lib.hid hd; have HX := Lib.hid hx; clear hd hx)
  go_ret
  exact ⟨g', rfl, HD.out, HX.out⟩
end Go.Proofs.Ytghkgfeamijefaa
