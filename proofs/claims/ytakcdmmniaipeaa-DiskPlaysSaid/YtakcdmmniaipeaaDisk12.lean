/- DiskRuns, walked. Written by gen_disk12.py. -/
import Derived.Test.YtakcdmmniaipeaaDisk11
set_option linter.unusedVariables false
set_option linter.unusedSimpArgs false
namespace Go.Proofs.Ytakcdmmniaipeaa
open Go.RowKit B
def e0 : DS := emptyD 10
def e1 : DS := (writeD e0 1 0 [97, 98, 99]).2
def e2 : DS := (syncD e1).2
def e3 : DS := (writeD e2 1 5 [100]).2
def e4 : DS := (cutD e3 1 1).2
def e5 : DS := (writeD e4 2 0 (zeros 10)).2
def e6 : DS := (writeD e5 64 0 []).2
def e7 : DS := armD e6 2
def e8 : DS := (syncD e7).2
def e9 : DS := (syncD e8).2
theorem f1 : writeD e0 1 0 [97, 98, 99] = (0, e1) := Prod.ext (by decide +kernel) rfl
theorem f2 : syncD e1 = (0, e2) := Prod.ext (by decide +kernel) rfl
theorem f3 : writeD e2 1 5 [100] = (0, e3) := Prod.ext (by decide +kernel) rfl
theorem f4 : cutD e3 1 1 = (0, e4) := Prod.ext (by decide +kernel) rfl
theorem f5 : writeD e4 2 0 (zeros 10) = (10, e5) := Prod.ext (by decide +kernel) rfl
theorem f6 : writeD e5 64 0 [] = (1, e6) := Prod.ext (by decide +kernel) rfl
theorem f8 : syncD e7 = (0, e8) := Prod.ext (by decide +kernel) rfl
theorem f9 : syncD e8 = (11, e9) := Prod.ext (by decide +kernel) rfl
theorem r1 : readF (crashD e1 0 (-1)) 1 = [] := by decide +kernel
theorem r2 : readF (crashD e1 1 (-1)) 1 = [97, 98, 99] := by decide +kernel
theorem r3 : readF (crashD e1 1 2) 1 = [97, 98] := by decide +kernel
theorem r4 : readF e3 1 = [97, 98, 99, 0, 0, 100] := by decide +kernel
theorem r5 : readF (crashD e4 2 (-1)) 1 = [97] := by decide +kernel
theorem r6 : readF (crashD e4 1 0) 1 = [97, 98, 99, 0, 0] := by decide +kernel
theorem r7 : readF e9 1 = [] := by decide +kernel
theorem r8 : readF (crashD e9 0 0) 1 = [97] := by decide +kernel
theorem o9 : e9.off = true := by decide +kernel
theorem h5 : e5.quota - heldN e5.files = 9 := by decide +kernel
theorem n5 : e5.wait.length = 2 := by decide +kernel
theorem l0 : e0.wait.length ≤ 1099511627776 := by decide +kernel
theorem l1 : e1.wait.length ≤ 1099511627776 := by decide +kernel
theorem l2 : e2.wait.length ≤ 1099511627776 := by decide +kernel
theorem l3 : e3.wait.length ≤ 1099511627776 := by decide +kernel
theorem l4 : e4.wait.length ≤ 1099511627776 := by decide +kernel
theorem l5 : e5.wait.length ≤ 1099511627776 := by decide +kernel
theorem l9 : e9.wait.length ≤ 1099511627776 := by decide +kernel
theorem mk10 (W : World) : (Instr.makeSlice 22 (.int .i64 10) (.int .i64 10)).run Try.prog W = .ok (.slice (some ⟨W.heap.size, 0, none⟩) 10 10) (W.alloc (.cells (madeCells #[.int .u8 0] 10) 5)) := by
  obtain ⟨i0, hi, hz0, hz1, hz2⟩ := info_parts infoU8
  have hr := run_make (P := Try.prog) W 22 5 i0 (.int .u8 0) Try.underlying22 hi hz0 .i64 .i64 10 10 (by omega) (Int.le_refl _) (by rw [hz2]; omega) (by omega)
  rw [hz1] at hr
  exact hr
theorem lit3 (W : World) : (convert 22 22 (.slice (some ⟨W.heap.size, 0, none⟩) 3 3)).run Try.prog (W.alloc (.cells #[.int .u8 97, .int .u8 98, .int .u8 99] 5)) = .ok (.slice (some ⟨W.heap.size, 0, none⟩) 3 3) (W.alloc (.cells #[.int .u8 97, .int .u8 98, .int .u8 99] 5 (3, 4))) := Lib.run_convert_bytes_const (P := Try.prog) W 22 5 #[.int .u8 97, .int .u8 98, .int .u8 99] 3 3 Try.underlying22 Try.underlying5
set_option maxRecDepth 100000 in
set_option maxHeartbeats 16000000 in
theorem DiskRuns_any (w : World) : Calls Try.prog 5 #[] w fun e w' => e = .returned (.bool true) ∧ Ext None_ w w' := by
  have HNEW := Lib.hid (lw_new 10 w (by omega) (by omega))
  go_enter Try.func5, Try.ntmps5
  go_wp2_with (first
    | (go_at_call 14; refine HNEW.out.mono ?_; rintro e wA ⟨g, rfl, h1⟩; have h1 : Lw w [] [] g e0 wA := h1; have HA := Lib.hid h1; have HA2 := Lib.hid (Lw.addRow h1 (x0 _ (.cells #[.int .u8 97, .int .u8 98, .int .u8 99] 5 (3, 4))) (l := [97, 98, 99]) (Row.ofHeap (heap_alloc_new wA _)) (fun ad e => by cases e; simp)); have lA := lit3 wA; clear h1 HNEW)
    | (go_at_call 15; refine (lw_writeE HA2.out f1 _ _ (Lw.row HA2.out (List.mem_cons_self ..)) (byt_of_B (by decide)) (fun ad e _ => .inl ⟨_, List.mem_cons_self .., e⟩) l0 (by decide)).mono ?_; rintro e wB ⟨rfl, h1, _⟩; have HB := Lib.hid (Lw.sub (rs' := []) h1 (fun _ h => by simp at h) (fun _ h => h)); have HB2 := Lib.hid (Lw.addRow HB.out (x0 _ (.cells #[.int .u8 97, .int .u8 98, .int .u8 99] 5 (3, 4))) (l := [97, 98, 99]) (Row.ofHeap (heap_alloc_new wB _)) (fun ad e => by cases e; simp)); have lB := lit3 wB; clear h1 HA2))
  clear lA lB
  obtain ⟨wC, hwC⟩ : ∃ wC, wC = wB.alloc (.cells #[.int .u8 97, .int .u8 98, .int .u8 99] 5 (3, 4)) := ⟨_, rfl⟩
  obtain ⟨b, hb⟩ : ∃ b, b = wB.heap.size := ⟨_, rfl⟩
  rw [← hwC]
  rw [← hb, ← hwC] at HB2
  rw [← hb]
  clear hwC hb
  refine wp_region_chain [1, 2, 7, 8, 10, 15, 16, 19] [(0, 0), (0, 1), (1, 2), (2, 2), (2, 2), (2, 2), (2, 2), (2, 3), (3, 4), (2, 4), (4, 5), (5, 5), (5, 5), (5, 5), (5, 5), (5, 6), (6, 7), (5, 7), (5, 7), (7, 8), (8, 8), (8, 8)] (loudS [false, false, false, false, false, false, false, false]) [WLw w [(some ⟨b, 0, none⟩, [97, 98, 99])] [] g e1, WLw w [(some ⟨b, 0, none⟩, [97, 98, 99])] [] g e1, WLw w [(some ⟨b, 0, none⟩, [97, 98, 99])] [] g e1, WLw w [(some ⟨b, 0, none⟩, [97, 98, 99])] [] g e1, WLw w [(some ⟨b, 0, none⟩, [97, 98, 99])] [] g e1, WLw w [(some ⟨b, 0, none⟩, [97, 98, 99])] [] g e1, WLw w [(some ⟨b, 0, none⟩, [97, 98, 99])] [] g e1, WLw w [(some ⟨b, 0, none⟩, [97, 98, 99])] [] g e1, WLw w [(some ⟨b, 0, none⟩, [97, 98, 99])] [] g e1] [cv (.pointer (some ⟨g, 0, none⟩)), cDk [false, false, false, false, false, false, false, false] 1 (crashD e1 0 (-1)), cRw [false, false, false, false, false, false, false, false] 2 2 rfl [], cv _, cv (.bool false), cv (.bool false), cv (.pointer (some ⟨g, 0, none⟩)), cDk [false, false, false, false, false, false, false, false] 3 (crashD e1 1 (-1)), cRw [false, false, false, false, false, false, false, false] 4 4 rfl [97, 98, 99], cv (.slice (some ⟨b, 0, none⟩) 3 3), cv (.bool true), cv (.bool false), cv (.bool false), cv (.bool false), cv (.pointer (some ⟨g, 0, none⟩)), cDk [false, false, false, false, false, false, false, false] 6 (crashD e1 1 2), cRw [false, false, false, false, false, false, false, false] 7 7 rfl [97, 98], cv (.slice (some ⟨b, 0, none⟩) 3 3), cv (.slice (some ⟨b, 0, none⟩) 2 3), cv (.bool true), cv (.bool false), cv (.bool false)] (by kernel_rfl) rfl rfl rfl rfl rfl rfl rfl rfl (HB2.out.ext0 (Ext.refl None_ _).drew) ⟨
    (by
      intro Lq aq wq kq hd hj hlo hhi Kq hK
      rw [if_pos (wanted_none rfl)]
      have f1 := hj.base 1 rfl rfl
      exact opMove hK rfl (ev f1) rfl),
    (by
      intro Lq aq wq hd hj Kq hK
      rw [if_pos (wanted_none rfl)]
      have f23 := hj.val 0 23 rfl rfl (by simp) rfl (hd ⟨0, .data⟩ (by simp) rfl)
      exact opCallC hK Try.func22 (by kernel_rfl) rfl (args := #[.pointer (some ⟨g, 0, none⟩), .int .i64 0, .int .i64 (-1)]) (by simp [ev f23]) ((is_crash (Lw.is (hj.inv : Lw w [(some ⟨b, 0, none⟩, [97, 98, 99])] [] g e1 wq)) 0 (-1) (by unfold I64; omega) l1).mono fun e w' ⟨g', h1, h2, h3⟩ => ⟨_, h1, ⟨Nat.le_refl _, fun _ => ⟨g', rfl, h2⟩⟩, Lw.ext0 (hj.inv : Lw w [(some ⟨b, 0, none⟩, [97, 98, 99])] [] g e1 wq) h3, ofQ h3⟩)),
    (by
      intro Lq aq wq hd hj Kq hK
      rw [if_pos (wanted_none rfl)]
      obtain ⟨u24, f24, g24⟩ := hj.at_ 1 24 rfl rfl (by simp) (hd ⟨1, .data⟩ (by simp) rfl)
      obtain ⟨g7, rfl, hg7⟩ := g24.2 (Nat.le_refl _)
      exact opCallC hK Try.func23 (by kernel_rfl) rfl (args := #[.pointer (some ⟨g7, 0, none⟩), .int .i64 1]) (by simp [ev f24]) ((is_readE hg7 r1).mono fun e w' ⟨A, c, h1, h2, _, _, _, h3⟩ => ⟨_, h1, ⟨Nat.le_refl _, fun _ => ⟨A, c, rfl, h2⟩⟩, Lw.ext0 (hj.inv : Lw w [(some ⟨b, 0, none⟩, [97, 98, 99])] [] g e1 wq) h3, ofQ h3⟩)),
    (by
      intro Lq aq wq kq hd hj hlo hhi Kq hK
      rw [if_pos (wanted_none rfl)]
      obtain ⟨u25, f25, g25⟩ := hj.at_ 2 25 rfl rfl (by simp) (hd ⟨2, .data⟩ (by simp) rfl)
      obtain ⟨A7, c7, rfl, _⟩ := g25.2 hhi
      exact opLen hK rfl (ev f25) (by kernel_rfl) rfl),
    (by
      intro Lq aq wq kq hd hj hlo hhi Kq hK
      rw [if_pos (wanted_none rfl)]
      have f26 := hj.val 3 26 rfl rfl (by simp) rfl (hd ⟨3, .data⟩ (by simp) rfl)
      exact opBin hK rfl (ev f26) rfl (guardInt _ _ _ _ _ _ _ _ _) (binNeInt _ _ _ _ _) (congrArg Value.bool (by first | rfl | assumption | (simp; omega) | (simp [*]; done)))),
    (by
      intro Lq aq wq kq hd hj hlo hhi Kq hK
      rw [if_pos (wanted_none rfl)]
      have f27 := hj.val 4 27 rfl rfl (by simp) rfl (hd ⟨4, .data⟩ (by simp) rfl)
      exact opMove hK rfl (ev f27) rfl),
    (by
      intro Lq aq wq kq hd hj hlo hhi Kq hK
      have fg := hj.val 5 28 rfl rfl (by simp) rfl (hd ⟨5, .guard⟩ (by simp) rfl)
      rw [wanted_some (c := false) rfl rfl rfl fg, if_pos (by rfl)]
      have f1 := hj.base 1 rfl rfl
      exact opMove hK rfl (ev f1) rfl),
    (by
      intro Lq aq wq hd hj Kq hK
      have fg := hj.val 5 28 rfl rfl (by simp) rfl (hd ⟨5, .guard⟩ (by simp) rfl)
      rw [wanted_some (c := false) rfl rfl rfl fg, if_pos (by rfl)]
      have f29 := hj.val 6 29 rfl rfl (by simp) rfl (hd ⟨6, .data⟩ (by simp) rfl)
      exact opCallC hK Try.func22 (by kernel_rfl) rfl (args := #[.pointer (some ⟨g, 0, none⟩), .int .i64 1, .int .i64 (-1)]) (by simp [ev f29]) ((is_crash (Lw.is (hj.inv : Lw w [(some ⟨b, 0, none⟩, [97, 98, 99])] [] g e1 wq)) 1 (-1) (by unfold I64; omega) l1).mono fun e w' ⟨g', h1, h2, h3⟩ => ⟨_, h1, ⟨Nat.le_refl _, fun _ => ⟨g', rfl, h2⟩⟩, Lw.ext0 (hj.inv : Lw w [(some ⟨b, 0, none⟩, [97, 98, 99])] [] g e1 wq) h3, ofQ h3⟩)),
    (by
      intro Lq aq wq hd hj Kq hK
      have fg := hj.val 5 28 rfl rfl (by simp) rfl (hd ⟨5, .guard⟩ (by simp) rfl)
      rw [wanted_some (c := false) rfl rfl rfl fg, if_pos (by rfl)]
      obtain ⟨u30, f30, g30⟩ := hj.at_ 7 30 rfl rfl (by simp) (hd ⟨7, .data⟩ (by simp) rfl)
      obtain ⟨g7, rfl, hg7⟩ := g30.2 (Nat.le_refl _)
      exact opCallC hK Try.func23 (by kernel_rfl) rfl (args := #[.pointer (some ⟨g7, 0, none⟩), .int .i64 1]) (by simp [ev f30]) ((is_readE hg7 r2).mono fun e w' ⟨A, c, h1, h2, _, _, _, h3⟩ => ⟨_, h1, ⟨Nat.le_refl _, fun _ => ⟨A, c, rfl, h2⟩⟩, Lw.ext0 (hj.inv : Lw w [(some ⟨b, 0, none⟩, [97, 98, 99])] [] g e1 wq) h3, ofQ h3⟩)),
    (by
      intro Lq aq wq kq hd hj hlo hhi Kq hK
      have fg := hj.val 5 28 rfl rfl (by simp) rfl (hd ⟨5, .guard⟩ (by simp) rfl)
      rw [wanted_some (c := false) rfl rfl rfl fg, if_pos (by rfl)]
      have f3 := hj.base 3 rfl rfl
      exact opMove hK rfl (ev f3) rfl),
    (by
      intro Lq aq wq hd hj Kq hK
      have fg := hj.val 5 28 rfl rfl (by simp) rfl (hd ⟨5, .guard⟩ (by simp) rfl)
      rw [wanted_some (c := false) rfl rfl rfl fg, if_pos (by rfl)]
      obtain ⟨u31, f31, g31⟩ := hj.at_ 8 31 rfl rfl (by simp) (hd ⟨8, .data⟩ (by simp) rfl)
      have f32 := hj.val 9 32 rfl rfl (by simp) rfl (hd ⟨9, .data⟩ (by simp) rfl)
      obtain ⟨A0, c0, rfl, r0⟩ := g31.2 (Nat.le_refl _)
      exact opCallC hK Try.func24 (by kernel_rfl) rfl (args := #[.slice A0 ([97, 98, 99] : List Int).length c0, .slice (some ⟨b, 0, none⟩) ([97, 98, 99] : List Int).length 3]) (by simp [ev f31, ev f32]) ((same_any A0 c0 [97, 98, 99] (some ⟨b, 0, none⟩) 3 [97, 98, 99] wq r0 (Lw.row (hj.inv : Lw w [(some ⟨b, 0, none⟩, [97, 98, 99])] [] g e1 wq) (List.mem_cons_self ..)) (by decide) (by decide)).mono fun e w' ⟨h1, h2⟩ => ⟨_, h1, congrArg Value.bool (by decide), Lw.ext0 (hj.inv : Lw w [(some ⟨b, 0, none⟩, [97, 98, 99])] [] g e1 wq) h2, ofQ h2⟩)),
    (by
      intro Lq aq wq kq hd hj hlo hhi Kq hK
      have fg := hj.val 5 28 rfl rfl (by simp) rfl (hd ⟨5, .guard⟩ (by simp) rfl)
      rw [wanted_some (c := false) rfl rfl rfl fg, if_pos (by rfl)]
      have f33 := hj.val 10 33 rfl rfl (by simp) rfl (hd ⟨10, .data⟩ (by simp) rfl)
      exact opNot hK rfl (ev f33) rfl),
    (by
      intro Lq aq wq kq hd hj hlo hhi Kq hK
      rw [if_pos (wanted_none rfl)]
      have f28 := hj.val 5 28 rfl rfl (by simp) rfl (hd ⟨5, .data⟩ (by simp) rfl)
      have f34 := hj.val 11 34 rfl rfl (by simp) rfl (hd ⟨11, .data⟩ (by simp) rfl)
      exact opPick hK rfl (b := false) (ev f28) ((if_neg (by decide)).trans (ev f34)) rfl),
    (by
      intro Lq aq wq kq hd hj hlo hhi Kq hK
      rw [if_pos (wanted_none rfl)]
      have f35 := hj.val 12 35 rfl rfl (by simp) rfl (hd ⟨12, .data⟩ (by simp) rfl)
      exact opMove hK rfl (ev f35) rfl),
    (by
      intro Lq aq wq kq hd hj hlo hhi Kq hK
      have fg := hj.val 13 36 rfl rfl (by simp) rfl (hd ⟨13, .guard⟩ (by simp) rfl)
      rw [wanted_some (c := false) rfl rfl rfl fg, if_pos (by rfl)]
      have f1 := hj.base 1 rfl rfl
      exact opMove hK rfl (ev f1) rfl),
    (by
      intro Lq aq wq hd hj Kq hK
      have fg := hj.val 13 36 rfl rfl (by simp) rfl (hd ⟨13, .guard⟩ (by simp) rfl)
      rw [wanted_some (c := false) rfl rfl rfl fg, if_pos (by rfl)]
      have f37 := hj.val 14 37 rfl rfl (by simp) rfl (hd ⟨14, .data⟩ (by simp) rfl)
      exact opCallC hK Try.func22 (by kernel_rfl) rfl (args := #[.pointer (some ⟨g, 0, none⟩), .int .i64 1, .int .i64 2]) (by simp [ev f37]) ((is_crash (Lw.is (hj.inv : Lw w [(some ⟨b, 0, none⟩, [97, 98, 99])] [] g e1 wq)) 1 2 (by unfold I64; omega) l1).mono fun e w' ⟨g', h1, h2, h3⟩ => ⟨_, h1, ⟨Nat.le_refl _, fun _ => ⟨g', rfl, h2⟩⟩, Lw.ext0 (hj.inv : Lw w [(some ⟨b, 0, none⟩, [97, 98, 99])] [] g e1 wq) h3, ofQ h3⟩)),
    (by
      intro Lq aq wq hd hj Kq hK
      have fg := hj.val 13 36 rfl rfl (by simp) rfl (hd ⟨13, .guard⟩ (by simp) rfl)
      rw [wanted_some (c := false) rfl rfl rfl fg, if_pos (by rfl)]
      obtain ⟨u38, f38, g38⟩ := hj.at_ 15 38 rfl rfl (by simp) (hd ⟨15, .data⟩ (by simp) rfl)
      obtain ⟨g7, rfl, hg7⟩ := g38.2 (Nat.le_refl _)
      exact opCallC hK Try.func23 (by kernel_rfl) rfl (args := #[.pointer (some ⟨g7, 0, none⟩), .int .i64 1]) (by simp [ev f38]) ((is_readE hg7 r3).mono fun e w' ⟨A, c, h1, h2, _, _, _, h3⟩ => ⟨_, h1, ⟨Nat.le_refl _, fun _ => ⟨A, c, rfl, h2⟩⟩, Lw.ext0 (hj.inv : Lw w [(some ⟨b, 0, none⟩, [97, 98, 99])] [] g e1 wq) h3, ofQ h3⟩)),
    (by
      intro Lq aq wq kq hd hj hlo hhi Kq hK
      have fg := hj.val 13 36 rfl rfl (by simp) rfl (hd ⟨13, .guard⟩ (by simp) rfl)
      rw [wanted_some (c := false) rfl rfl rfl fg, if_pos (by rfl)]
      have f3 := hj.base 3 rfl rfl
      exact opMove hK rfl (ev f3) rfl),
    (by
      intro Lq aq wq kq hd hj hlo hhi Kq hK
      have fg := hj.val 13 36 rfl rfl (by simp) rfl (hd ⟨13, .guard⟩ (by simp) rfl)
      rw [wanted_some (c := false) rfl rfl rfl fg, if_pos (by rfl)]
      have f40 := hj.val 17 40 rfl rfl (by simp) rfl (hd ⟨17, .data⟩ (by simp) rfl)
      exact opSliceOp hK rfl (ev f40) rfl rfl rfl Try.underlying22 (fun W => by kernel_rfl) rfl),
    (by
      intro Lq aq wq hd hj Kq hK
      have fg := hj.val 13 36 rfl rfl (by simp) rfl (hd ⟨13, .guard⟩ (by simp) rfl)
      rw [wanted_some (c := false) rfl rfl rfl fg, if_pos (by rfl)]
      obtain ⟨u39, f39, g39⟩ := hj.at_ 16 39 rfl rfl (by simp) (hd ⟨16, .data⟩ (by simp) rfl)
      have f41 := hj.val 18 41 rfl rfl (by simp) rfl (hd ⟨18, .data⟩ (by simp) rfl)
      obtain ⟨A0, c0, rfl, r0⟩ := g39.2 (Nat.le_refl _)
      exact opCallC hK Try.func24 (by kernel_rfl) rfl (args := #[.slice A0 ([97, 98] : List Int).length c0, .slice (some ⟨b, 0, none⟩) ([97, 98] : List Int).length 3]) (by simp [ev f39, ev f41]) ((same_any A0 c0 [97, 98] (some ⟨b, 0, none⟩) 3 [97, 98] wq r0 (Row.take (Lw.row (hj.inv : Lw w [(some ⟨b, 0, none⟩, [97, 98, 99])] [] g e1 wq) (List.mem_cons_self ..)) 2) (by decide) (by decide)).mono fun e w' ⟨h1, h2⟩ => ⟨_, h1, congrArg Value.bool (by decide), Lw.ext0 (hj.inv : Lw w [(some ⟨b, 0, none⟩, [97, 98, 99])] [] g e1 wq) h2, ofQ h2⟩)),
    (by
      intro Lq aq wq kq hd hj hlo hhi Kq hK
      have fg := hj.val 13 36 rfl rfl (by simp) rfl (hd ⟨13, .guard⟩ (by simp) rfl)
      rw [wanted_some (c := false) rfl rfl rfl fg, if_pos (by rfl)]
      have f42 := hj.val 19 42 rfl rfl (by simp) rfl (hd ⟨19, .data⟩ (by simp) rfl)
      exact opNot hK rfl (ev f42) rfl),
    (by
      intro Lq aq wq kq hd hj hlo hhi Kq hK
      rw [if_pos (wanted_none rfl)]
      have f36 := hj.val 13 36 rfl rfl (by simp) rfl (hd ⟨13, .data⟩ (by simp) rfl)
      have f43 := hj.val 20 43 rfl rfl (by simp) rfl (hd ⟨20, .data⟩ (by simp) rfl)
      exact opPick hK rfl (b := false) (ev f36) ((if_neg (by decide)).trans (ev f43)) rfl),
    trivial⟩ ?fin
  case fin =>
    intro vs wD hI hg
    have v21 : vs 21 = _ := hg 21 (by decide)
    have HD : Hid (Lw w [(some ⟨b, 0, none⟩, [97, 98, 99])] [] g e1 wD) := Lib.hid hI
    clear hI hg
    simp only [putAll, v21, Nat.reduceAdd, Nat.zero_add]
    simp only [Act.put, List.setIfInBounds_toArray, List.set_cons_succ, List.set_cons_zero]
    go_wp2_with fail
    refine wp_region_chain [1, 6, 7, 12, 14, 19, 24, 25, 28, 33, 34, 36] [(0, 0), (0, 1), (1, 1), (1, 1), (1, 2), (1, 1), (1, 2), (2, 3), (3, 3), (3, 3), (3, 3), (3, 3), (3, 4), (3, 4), (4, 5), (5, 5), (5, 5), (5, 5), (5, 5), (5, 6), (6, 6), (6, 6), (6, 6), (6, 6), (6, 7), (7, 8), (6, 8), (6, 8), (8, 9), (9, 9), (9, 9), (9, 9), (9, 9), (9, 10), (10, 11), (9, 11), (11, 12), (12, 12), (12, 12)] (loudS [true, true, true, false, false, true, false, false, false, false, false, false]) [WLw w [(some ⟨b, 0, none⟩, [97, 98, 99])] [] g e1, WLw w [(some ⟨b, 0, none⟩, [97, 98, 99])] [] g e2, WLw w [(some ⟨b, 0, none⟩, [97, 98, 99])] [] g e2, WLw w [(some ⟨b, 0, none⟩, [97, 98, 99])] [] g e3, WLw w [(some ⟨b, 0, none⟩, [97, 98, 99])] [] g e3, WLw w [(some ⟨b, 0, none⟩, [97, 98, 99])] [] g e3, WLw w [(some ⟨b, 0, none⟩, [97, 98, 99])] [] g e4, WLw w [(some ⟨b, 0, none⟩, [97, 98, 99])] [] g e4, WLw w [(some ⟨b, 0, none⟩, [97, 98, 99])] [] g e4, WLw w [(some ⟨b, 0, none⟩, [97, 98, 99])] [] g e4, WLw w [(some ⟨b, 0, none⟩, [97, 98, 99])] [] g e4, WLw w [(some ⟨b, 0, none⟩, [97, 98, 99])] [] g e4, WLw w [(some ⟨b, 0, none⟩, [97, 98, 99])] [] g e4] [cv (.pointer (some ⟨g, 0, none⟩)), cv (.int .i64 0), cv (.bool false), cv (.bool false), cv (.pointer (some ⟨g, 0, none⟩)), cLit [true, true, true, false, false, true, false, false, false, false, false, false] 1 w [(some ⟨b, 0, none⟩, [97, 98, 99])] [] g e2 [100], cBW [true, true, true, false, false, true, false, false, false, false, false, false] 2 w [(some ⟨b, 0, none⟩, [97, 98, 99])] [] g e2 [100], cv (.int .i64 0), cv (.bool false), cv (.bool false), cv (.bool false), cv (.pointer (some ⟨g, 0, none⟩)), cRw [true, true, true, false, false, true, false, false, false, false, false, false] 4 4 rfl [97, 98, 99, 0, 0, 100], cRw [true, true, true, false, false, true, false, false, false, false, false, false] 3 4 rfl [97, 98, 99, 0, 0, 100], cv (.bool true), cv (.bool false), cv (.bool false), cv (.bool false), cv (.pointer (some ⟨g, 0, none⟩)), cv (.int .i64 0), cv (.bool false), cv (.bool false), cv (.bool false), cv (.pointer (some ⟨g, 0, none⟩)), cDk [true, true, true, false, false, true, false, false, false, false, false, false] 7 (crashD e4 2 (-1)), cRw [true, true, true, false, false, true, false, false, false, false, false, false] 8 8 rfl [97], cv (.slice (some ⟨b, 0, none⟩) 3 3), cv (.slice (some ⟨b, 0, none⟩) 1 3), cv (.bool true), cv (.bool false), cv (.bool false), cv (.bool false), cv (.pointer (some ⟨g, 0, none⟩)), cDk [true, true, true, false, false, true, false, false, false, false, false, false] 10 (crashD e4 1 0), cRw [true, true, true, false, false, true, false, false, false, false, false, false] 11 11 rfl [97, 98, 99, 0, 0], cRw [true, true, true, false, false, true, false, false, false, false, false, false] 9 11 rfl [97, 98, 99, 0, 0], cv (.bool true), cv (.bool false), cv (.bool false)] (by kernel_rfl) rfl rfl rfl rfl rfl rfl rfl rfl (HD.out.ext0 (Ext.refl None_ _).drew) ⟨
      (by
        intro Lq aq wq kq hd hj hlo hhi Kq hK
        rw [if_pos (wanted_none rfl)]
        have f1 := hj.base 1 rfl rfl
        exact opMove hK rfl (ev f1) rfl),
      (by
        intro Lq aq wq hd hj Kq hK
        rw [if_pos (wanted_none rfl)]
        have f45 := hj.val 0 45 rfl rfl (by simp) rfl (hd ⟨0, .data⟩ (by simp) rfl)
        exact opCallC hK Try.func25 (by kernel_rfl) rfl (args := #[.pointer (some ⟨g, 0, none⟩)]) (by simp [ev f45]) ((lw_syncE (hj.inv : Lw w [(some ⟨b, 0, none⟩, [97, 98, 99])] [] g e1 wq) f2).mono fun e w' ⟨h1, h2, h3⟩ => ⟨_, h1, rfl, h2, ofAll rfl h3⟩)),
      (by
        intro Lq aq wq kq hd hj hlo hhi Kq hK
        rw [if_pos (wanted_none rfl)]
        have f46 := hj.val 1 46 rfl rfl (by simp) rfl (hd ⟨1, .data⟩ (by simp) rfl)
        exact opBin hK rfl (ev f46) rfl (guardInt _ _ _ _ _ _ _ _ _) (binNeInt _ _ _ _ _) (congrArg Value.bool (by first | rfl | assumption | (simp; omega) | (simp [*]; done)))),
      (by
        intro Lq aq wq kq hd hj hlo hhi Kq hK
        rw [if_pos (wanted_none rfl)]
        have f47 := hj.val 2 47 rfl rfl (by simp) rfl (hd ⟨2, .data⟩ (by simp) rfl)
        exact opMove hK rfl (ev f47) rfl),
      (by
        intro Lq aq wq kq hd hj hlo hhi Kq hK
        have fg := hj.val 3 48 rfl rfl (by simp) rfl (hd ⟨3, .guard⟩ (by simp) rfl)
        rw [wanted_some (c := false) rfl rfl rfl fg, if_pos (by rfl)]
        have f1 := hj.base 1 rfl rfl
        exact opMove hK rfl (ev f1) rfl),
      (by
        intro Lq aq wq kq hd hj hlo hhi Kq hK
        have fg := hj.val 3 48 rfl rfl (by simp) rfl (hd ⟨3, .guard⟩ (by simp) rfl)
        rw [wanted_some (c := false) rfl rfl rfl fg, if_pos (by rfl)]
        obtain rfl : kq = 1 := Nat.le_antisymm hhi hlo
        exact opSlice hK rfl (ps := #[(0, .int .u8 100)]) (cs := #[.int .u8 100]) (e := 5) (by simp) (fun W => by kernel_rfl) ⟨Nat.le_refl _, fun _ => ⟨wq, _, rfl, (hj.inv : Lw w [(some ⟨b, 0, none⟩, [97, 98, 99])] [] g e2 wq), Nat.le_refl _, x0 _ _, heap_alloc_new wq _⟩⟩),
      (by
        intro Lq aq wq hd hj Kq hK
        have fg := hj.val 3 48 rfl rfl (by simp) rfl (hd ⟨3, .guard⟩ (by simp) rfl)
        rw [wanted_some (c := false) rfl rfl rfl fg, if_pos (by rfl)]
        obtain ⟨u50, f50, g50⟩ := hj.at_ 5 50 rfl rfl (by simp) (hd ⟨5, .data⟩ (by simp) rfl)
        exact opConvMark rfl hK rfl (ev f50) g50),
      (by
        intro Lq aq wq hd hj Kq hK
        have fg := hj.val 3 48 rfl rfl (by simp) rfl (hd ⟨3, .guard⟩ (by simp) rfl)
        rw [wanted_some (c := false) rfl rfl rfl fg, if_pos (by rfl)]
        have f49 := hj.val 4 49 rfl rfl (by simp) rfl (hd ⟨4, .data⟩ (by simp) rfl)
        obtain ⟨u51, f51, g51⟩ := hj.at_ 6 51 rfl rfl (by simp) (hd ⟨6, .data⟩ (by simp) rfl)
        obtain ⟨b7, rfl, hb7⟩ := g51.2 (Nat.le_refl _)
        exact opCallC hK Try.func15 (by kernel_rfl) rfl (args := #[.pointer (some ⟨g, 0, none⟩), .int .i64 1, .int .i64 5, .slice (some ⟨b7, 0, none⟩) ([100] : List Int).length ([100] : List Int).length]) (by simp [ev f49, ev f51]) ((lw_writeE hb7 f3 _ _ (Lw.row hb7 (List.mem_cons_self ..)) (byt_of_B (by decide)) (fun ad e _ => .inl ⟨_, List.mem_cons_self .., e⟩) l2 (by decide)).mono fun e w' ⟨h1, h2, h3⟩ => ⟨_, h1, rfl, h2.sub (fun _ h => List.mem_cons_of_mem _ h) (fun _ h => h), ofAll rfl h3⟩)),
      (by
        intro Lq aq wq kq hd hj hlo hhi Kq hK
        have fg := hj.val 3 48 rfl rfl (by simp) rfl (hd ⟨3, .guard⟩ (by simp) rfl)
        rw [wanted_some (c := false) rfl rfl rfl fg, if_pos (by rfl)]
        have f52 := hj.val 7 52 rfl rfl (by simp) rfl (hd ⟨7, .data⟩ (by simp) rfl)
        exact opBin hK rfl (ev f52) rfl (guardInt _ _ _ _ _ _ _ _ _) (binNeInt _ _ _ _ _) (congrArg Value.bool (by first | rfl | assumption | (simp; omega) | (simp [*]; done)))),
      (by
        intro Lq aq wq kq hd hj hlo hhi Kq hK
        rw [if_pos (wanted_none rfl)]
        have f48 := hj.val 3 48 rfl rfl (by simp) rfl (hd ⟨3, .data⟩ (by simp) rfl)
        have f53 := hj.val 8 53 rfl rfl (by simp) rfl (hd ⟨8, .data⟩ (by simp) rfl)
        exact opPick hK rfl (b := false) (ev f48) ((if_neg (by decide)).trans (ev f53)) rfl),
      (by
        intro Lq aq wq kq hd hj hlo hhi Kq hK
        rw [if_pos (wanted_none rfl)]
        have f54 := hj.val 9 54 rfl rfl (by simp) rfl (hd ⟨9, .data⟩ (by simp) rfl)
        exact opMove hK rfl (ev f54) rfl),
      (by
        intro Lq aq wq kq hd hj hlo hhi Kq hK
        have fg := hj.val 10 55 rfl rfl (by simp) rfl (hd ⟨10, .guard⟩ (by simp) rfl)
        rw [wanted_some (c := false) rfl rfl rfl fg, if_pos (by rfl)]
        have f1 := hj.base 1 rfl rfl
        exact opMove hK rfl (ev f1) rfl),
      (by
        intro Lq aq wq hd hj Kq hK
        have fg := hj.val 10 55 rfl rfl (by simp) rfl (hd ⟨10, .guard⟩ (by simp) rfl)
        rw [wanted_some (c := false) rfl rfl rfl fg, if_pos (by rfl)]
        have f56 := hj.val 11 56 rfl rfl (by simp) rfl (hd ⟨11, .data⟩ (by simp) rfl)
        exact opCallC hK Try.func23 (by kernel_rfl) rfl (args := #[.pointer (some ⟨g, 0, none⟩), .int .i64 1]) (by simp [ev f56]) ((is_readE (Lw.is (hj.inv : Lw w [(some ⟨b, 0, none⟩, [97, 98, 99])] [] g e3 wq)) r4).mono fun e w' ⟨A, c, h1, h2, _, _, _, h3⟩ => ⟨_, h1, ⟨Nat.le_refl _, fun _ => ⟨A, c, rfl, h2⟩⟩, Lw.ext0 (hj.inv : Lw w [(some ⟨b, 0, none⟩, [97, 98, 99])] [] g e3 wq) h3, ofQ h3⟩)),
      (by
        intro Lq aq wq kq hd hj hlo hhi Kq hK
        have fg := hj.val 10 55 rfl rfl (by simp) rfl (hd ⟨10, .guard⟩ (by simp) rfl)
        rw [wanted_some (c := false) rfl rfl rfl fg, if_pos (by rfl)]
        exact opSlice hK rfl (ps := #[(0, .int .u8 97), (1, .int .u8 98), (2, .int .u8 99), (3, .int .u8 0), (4, .int .u8 0), (5, .int .u8 100)]) (cs := #[.int .u8 97, .int .u8 98, .int .u8 99, .int .u8 0, .int .u8 0, .int .u8 100]) (e := 5) (by simp) (fun W => by kernel_rfl) ⟨hlo, fun _ => ⟨_, _, rfl, (Blk.new wq _ _).row⟩⟩),
      (by
        intro Lq aq wq hd hj Kq hK
        have fg := hj.val 10 55 rfl rfl (by simp) rfl (hd ⟨10, .guard⟩ (by simp) rfl)
        rw [wanted_some (c := false) rfl rfl rfl fg, if_pos (by rfl)]
        obtain ⟨u57, f57, g57⟩ := hj.at_ 12 57 rfl rfl (by simp) (hd ⟨12, .data⟩ (by simp) rfl)
        obtain ⟨u58, f58, g58⟩ := hj.at_ 13 58 rfl rfl (by simp) (hd ⟨13, .data⟩ (by simp) rfl)
        obtain ⟨A0, c0, rfl, r0⟩ := g57.2 (Nat.le_refl _)
        obtain ⟨A1, c1, rfl, r1⟩ := g58.2 (Nat.le_refl _)
        exact opCallC hK Try.func24 (by kernel_rfl) rfl (args := #[.slice A0 ([97, 98, 99, 0, 0, 100] : List Int).length c0, .slice A1 ([97, 98, 99, 0, 0, 100] : List Int).length c1]) (by simp [ev f57, ev f58]) ((same_any A0 c0 [97, 98, 99, 0, 0, 100] A1 c1 [97, 98, 99, 0, 0, 100] wq r0 r1 (by decide) (by decide)).mono fun e w' ⟨h1, h2⟩ => ⟨_, h1, congrArg Value.bool (by decide), Lw.ext0 (hj.inv : Lw w [(some ⟨b, 0, none⟩, [97, 98, 99])] [] g e3 wq) h2, ofQ h2⟩)),
      (by
        intro Lq aq wq kq hd hj hlo hhi Kq hK
        have fg := hj.val 10 55 rfl rfl (by simp) rfl (hd ⟨10, .guard⟩ (by simp) rfl)
        rw [wanted_some (c := false) rfl rfl rfl fg, if_pos (by rfl)]
        have f59 := hj.val 14 59 rfl rfl (by simp) rfl (hd ⟨14, .data⟩ (by simp) rfl)
        exact opNot hK rfl (ev f59) rfl),
      (by
        intro Lq aq wq kq hd hj hlo hhi Kq hK
        rw [if_pos (wanted_none rfl)]
        have f55 := hj.val 10 55 rfl rfl (by simp) rfl (hd ⟨10, .data⟩ (by simp) rfl)
        have f60 := hj.val 15 60 rfl rfl (by simp) rfl (hd ⟨15, .data⟩ (by simp) rfl)
        exact opPick hK rfl (b := false) (ev f55) ((if_neg (by decide)).trans (ev f60)) rfl),
      (by
        intro Lq aq wq kq hd hj hlo hhi Kq hK
        rw [if_pos (wanted_none rfl)]
        have f61 := hj.val 16 61 rfl rfl (by simp) rfl (hd ⟨16, .data⟩ (by simp) rfl)
        exact opMove hK rfl (ev f61) rfl),
      (by
        intro Lq aq wq kq hd hj hlo hhi Kq hK
        have fg := hj.val 17 62 rfl rfl (by simp) rfl (hd ⟨17, .guard⟩ (by simp) rfl)
        rw [wanted_some (c := false) rfl rfl rfl fg, if_pos (by rfl)]
        have f1 := hj.base 1 rfl rfl
        exact opMove hK rfl (ev f1) rfl),
      (by
        intro Lq aq wq hd hj Kq hK
        have fg := hj.val 17 62 rfl rfl (by simp) rfl (hd ⟨17, .guard⟩ (by simp) rfl)
        rw [wanted_some (c := false) rfl rfl rfl fg, if_pos (by rfl)]
        have f63 := hj.val 18 63 rfl rfl (by simp) rfl (hd ⟨18, .data⟩ (by simp) rfl)
        exact opCallC hK Try.func26 (by kernel_rfl) rfl (args := #[.pointer (some ⟨g, 0, none⟩), .int .i64 1, .int .i64 1]) (by simp [ev f63]) ((lw_cutE (hj.inv : Lw w [(some ⟨b, 0, none⟩, [97, 98, 99])] [] g e3 wq) f4 l3).mono fun e w' ⟨h1, h2, h3⟩ => ⟨_, h1, rfl, h2, ofAll rfl h3⟩)),
      (by
        intro Lq aq wq kq hd hj hlo hhi Kq hK
        have fg := hj.val 17 62 rfl rfl (by simp) rfl (hd ⟨17, .guard⟩ (by simp) rfl)
        rw [wanted_some (c := false) rfl rfl rfl fg, if_pos (by rfl)]
        have f64 := hj.val 19 64 rfl rfl (by simp) rfl (hd ⟨19, .data⟩ (by simp) rfl)
        exact opBin hK rfl (ev f64) rfl (guardInt _ _ _ _ _ _ _ _ _) (binNeInt _ _ _ _ _) (congrArg Value.bool (by first | rfl | assumption | (simp; omega) | (simp [*]; done)))),
      (by
        intro Lq aq wq kq hd hj hlo hhi Kq hK
        rw [if_pos (wanted_none rfl)]
        have f62 := hj.val 17 62 rfl rfl (by simp) rfl (hd ⟨17, .data⟩ (by simp) rfl)
        have f65 := hj.val 20 65 rfl rfl (by simp) rfl (hd ⟨20, .data⟩ (by simp) rfl)
        exact opPick hK rfl (b := false) (ev f62) ((if_neg (by decide)).trans (ev f65)) rfl),
      (by
        intro Lq aq wq kq hd hj hlo hhi Kq hK
        rw [if_pos (wanted_none rfl)]
        have f66 := hj.val 21 66 rfl rfl (by simp) rfl (hd ⟨21, .data⟩ (by simp) rfl)
        exact opMove hK rfl (ev f66) rfl),
      (by
        intro Lq aq wq kq hd hj hlo hhi Kq hK
        have fg := hj.val 22 67 rfl rfl (by simp) rfl (hd ⟨22, .guard⟩ (by simp) rfl)
        rw [wanted_some (c := false) rfl rfl rfl fg, if_pos (by rfl)]
        have f1 := hj.base 1 rfl rfl
        exact opMove hK rfl (ev f1) rfl),
      (by
        intro Lq aq wq hd hj Kq hK
        have fg := hj.val 22 67 rfl rfl (by simp) rfl (hd ⟨22, .guard⟩ (by simp) rfl)
        rw [wanted_some (c := false) rfl rfl rfl fg, if_pos (by rfl)]
        have f68 := hj.val 23 68 rfl rfl (by simp) rfl (hd ⟨23, .data⟩ (by simp) rfl)
        exact opCallC hK Try.func22 (by kernel_rfl) rfl (args := #[.pointer (some ⟨g, 0, none⟩), .int .i64 2, .int .i64 (-1)]) (by simp [ev f68]) ((is_crash (Lw.is (hj.inv : Lw w [(some ⟨b, 0, none⟩, [97, 98, 99])] [] g e4 wq)) 2 (-1) (by unfold I64; omega) l4).mono fun e w' ⟨g', h1, h2, h3⟩ => ⟨_, h1, ⟨Nat.le_refl _, fun _ => ⟨g', rfl, h2⟩⟩, Lw.ext0 (hj.inv : Lw w [(some ⟨b, 0, none⟩, [97, 98, 99])] [] g e4 wq) h3, ofQ h3⟩)),
      (by
        intro Lq aq wq hd hj Kq hK
        have fg := hj.val 22 67 rfl rfl (by simp) rfl (hd ⟨22, .guard⟩ (by simp) rfl)
        rw [wanted_some (c := false) rfl rfl rfl fg, if_pos (by rfl)]
        obtain ⟨u69, f69, g69⟩ := hj.at_ 24 69 rfl rfl (by simp) (hd ⟨24, .data⟩ (by simp) rfl)
        obtain ⟨g7, rfl, hg7⟩ := g69.2 (Nat.le_refl _)
        exact opCallC hK Try.func23 (by kernel_rfl) rfl (args := #[.pointer (some ⟨g7, 0, none⟩), .int .i64 1]) (by simp [ev f69]) ((is_readE hg7 r5).mono fun e w' ⟨A, c, h1, h2, _, _, _, h3⟩ => ⟨_, h1, ⟨Nat.le_refl _, fun _ => ⟨A, c, rfl, h2⟩⟩, Lw.ext0 (hj.inv : Lw w [(some ⟨b, 0, none⟩, [97, 98, 99])] [] g e4 wq) h3, ofQ h3⟩)),
      (by
        intro Lq aq wq kq hd hj hlo hhi Kq hK
        have fg := hj.val 22 67 rfl rfl (by simp) rfl (hd ⟨22, .guard⟩ (by simp) rfl)
        rw [wanted_some (c := false) rfl rfl rfl fg, if_pos (by rfl)]
        have f3 := hj.base 3 rfl rfl
        exact opMove hK rfl (ev f3) rfl),
      (by
        intro Lq aq wq kq hd hj hlo hhi Kq hK
        have fg := hj.val 22 67 rfl rfl (by simp) rfl (hd ⟨22, .guard⟩ (by simp) rfl)
        rw [wanted_some (c := false) rfl rfl rfl fg, if_pos (by rfl)]
        have f71 := hj.val 26 71 rfl rfl (by simp) rfl (hd ⟨26, .data⟩ (by simp) rfl)
        exact opSliceOp hK rfl (ev f71) rfl rfl rfl Try.underlying22 (fun W => by kernel_rfl) rfl),
      (by
        intro Lq aq wq hd hj Kq hK
        have fg := hj.val 22 67 rfl rfl (by simp) rfl (hd ⟨22, .guard⟩ (by simp) rfl)
        rw [wanted_some (c := false) rfl rfl rfl fg, if_pos (by rfl)]
        obtain ⟨u70, f70, g70⟩ := hj.at_ 25 70 rfl rfl (by simp) (hd ⟨25, .data⟩ (by simp) rfl)
        have f72 := hj.val 27 72 rfl rfl (by simp) rfl (hd ⟨27, .data⟩ (by simp) rfl)
        obtain ⟨A0, c0, rfl, r0⟩ := g70.2 (Nat.le_refl _)
        exact opCallC hK Try.func24 (by kernel_rfl) rfl (args := #[.slice A0 ([97] : List Int).length c0, .slice (some ⟨b, 0, none⟩) ([97] : List Int).length 3]) (by simp [ev f70, ev f72]) ((same_any A0 c0 [97] (some ⟨b, 0, none⟩) 3 [97] wq r0 (Row.take (Lw.row (hj.inv : Lw w [(some ⟨b, 0, none⟩, [97, 98, 99])] [] g e4 wq) (List.mem_cons_self ..)) 1) (by decide) (by decide)).mono fun e w' ⟨h1, h2⟩ => ⟨_, h1, congrArg Value.bool (by decide), Lw.ext0 (hj.inv : Lw w [(some ⟨b, 0, none⟩, [97, 98, 99])] [] g e4 wq) h2, ofQ h2⟩)),
      (by
        intro Lq aq wq kq hd hj hlo hhi Kq hK
        have fg := hj.val 22 67 rfl rfl (by simp) rfl (hd ⟨22, .guard⟩ (by simp) rfl)
        rw [wanted_some (c := false) rfl rfl rfl fg, if_pos (by rfl)]
        have f73 := hj.val 28 73 rfl rfl (by simp) rfl (hd ⟨28, .data⟩ (by simp) rfl)
        exact opNot hK rfl (ev f73) rfl),
      (by
        intro Lq aq wq kq hd hj hlo hhi Kq hK
        rw [if_pos (wanted_none rfl)]
        have f67 := hj.val 22 67 rfl rfl (by simp) rfl (hd ⟨22, .data⟩ (by simp) rfl)
        have f74 := hj.val 29 74 rfl rfl (by simp) rfl (hd ⟨29, .data⟩ (by simp) rfl)
        exact opPick hK rfl (b := false) (ev f67) ((if_neg (by decide)).trans (ev f74)) rfl),
      (by
        intro Lq aq wq kq hd hj hlo hhi Kq hK
        rw [if_pos (wanted_none rfl)]
        have f75 := hj.val 30 75 rfl rfl (by simp) rfl (hd ⟨30, .data⟩ (by simp) rfl)
        exact opMove hK rfl (ev f75) rfl),
      (by
        intro Lq aq wq kq hd hj hlo hhi Kq hK
        have fg := hj.val 31 76 rfl rfl (by simp) rfl (hd ⟨31, .guard⟩ (by simp) rfl)
        rw [wanted_some (c := false) rfl rfl rfl fg, if_pos (by rfl)]
        have f1 := hj.base 1 rfl rfl
        exact opMove hK rfl (ev f1) rfl),
      (by
        intro Lq aq wq hd hj Kq hK
        have fg := hj.val 31 76 rfl rfl (by simp) rfl (hd ⟨31, .guard⟩ (by simp) rfl)
        rw [wanted_some (c := false) rfl rfl rfl fg, if_pos (by rfl)]
        have f77 := hj.val 32 77 rfl rfl (by simp) rfl (hd ⟨32, .data⟩ (by simp) rfl)
        exact opCallC hK Try.func22 (by kernel_rfl) rfl (args := #[.pointer (some ⟨g, 0, none⟩), .int .i64 1, .int .i64 0]) (by simp [ev f77]) ((is_crash (Lw.is (hj.inv : Lw w [(some ⟨b, 0, none⟩, [97, 98, 99])] [] g e4 wq)) 1 0 (by unfold I64; omega) l4).mono fun e w' ⟨g', h1, h2, h3⟩ => ⟨_, h1, ⟨Nat.le_refl _, fun _ => ⟨g', rfl, h2⟩⟩, Lw.ext0 (hj.inv : Lw w [(some ⟨b, 0, none⟩, [97, 98, 99])] [] g e4 wq) h3, ofQ h3⟩)),
      (by
        intro Lq aq wq hd hj Kq hK
        have fg := hj.val 31 76 rfl rfl (by simp) rfl (hd ⟨31, .guard⟩ (by simp) rfl)
        rw [wanted_some (c := false) rfl rfl rfl fg, if_pos (by rfl)]
        obtain ⟨u78, f78, g78⟩ := hj.at_ 33 78 rfl rfl (by simp) (hd ⟨33, .data⟩ (by simp) rfl)
        obtain ⟨g7, rfl, hg7⟩ := g78.2 (Nat.le_refl _)
        exact opCallC hK Try.func23 (by kernel_rfl) rfl (args := #[.pointer (some ⟨g7, 0, none⟩), .int .i64 1]) (by simp [ev f78]) ((is_readE hg7 r6).mono fun e w' ⟨A, c, h1, h2, _, _, _, h3⟩ => ⟨_, h1, ⟨Nat.le_refl _, fun _ => ⟨A, c, rfl, h2⟩⟩, Lw.ext0 (hj.inv : Lw w [(some ⟨b, 0, none⟩, [97, 98, 99])] [] g e4 wq) h3, ofQ h3⟩)),
      (by
        intro Lq aq wq kq hd hj hlo hhi Kq hK
        have fg := hj.val 31 76 rfl rfl (by simp) rfl (hd ⟨31, .guard⟩ (by simp) rfl)
        rw [wanted_some (c := false) rfl rfl rfl fg, if_pos (by rfl)]
        exact opSlice hK rfl (ps := #[(0, .int .u8 97), (1, .int .u8 98), (2, .int .u8 99), (3, .int .u8 0), (4, .int .u8 0)]) (cs := #[.int .u8 97, .int .u8 98, .int .u8 99, .int .u8 0, .int .u8 0]) (e := 5) (by simp) (fun W => by kernel_rfl) ⟨hlo, fun _ => ⟨_, _, rfl, (Blk.new wq _ _).row⟩⟩),
      (by
        intro Lq aq wq hd hj Kq hK
        have fg := hj.val 31 76 rfl rfl (by simp) rfl (hd ⟨31, .guard⟩ (by simp) rfl)
        rw [wanted_some (c := false) rfl rfl rfl fg, if_pos (by rfl)]
        obtain ⟨u79, f79, g79⟩ := hj.at_ 34 79 rfl rfl (by simp) (hd ⟨34, .data⟩ (by simp) rfl)
        obtain ⟨u80, f80, g80⟩ := hj.at_ 35 80 rfl rfl (by simp) (hd ⟨35, .data⟩ (by simp) rfl)
        obtain ⟨A0, c0, rfl, r0⟩ := g79.2 (Nat.le_refl _)
        obtain ⟨A1, c1, rfl, r1⟩ := g80.2 (Nat.le_refl _)
        exact opCallC hK Try.func24 (by kernel_rfl) rfl (args := #[.slice A0 ([97, 98, 99, 0, 0] : List Int).length c0, .slice A1 ([97, 98, 99, 0, 0] : List Int).length c1]) (by simp [ev f79, ev f80]) ((same_any A0 c0 [97, 98, 99, 0, 0] A1 c1 [97, 98, 99, 0, 0] wq r0 r1 (by decide) (by decide)).mono fun e w' ⟨h1, h2⟩ => ⟨_, h1, congrArg Value.bool (by decide), Lw.ext0 (hj.inv : Lw w [(some ⟨b, 0, none⟩, [97, 98, 99])] [] g e4 wq) h2, ofQ h2⟩)),
      (by
        intro Lq aq wq kq hd hj hlo hhi Kq hK
        have fg := hj.val 31 76 rfl rfl (by simp) rfl (hd ⟨31, .guard⟩ (by simp) rfl)
        rw [wanted_some (c := false) rfl rfl rfl fg, if_pos (by rfl)]
        have f81 := hj.val 36 81 rfl rfl (by simp) rfl (hd ⟨36, .data⟩ (by simp) rfl)
        exact opNot hK rfl (ev f81) rfl),
      (by
        intro Lq aq wq kq hd hj hlo hhi Kq hK
        rw [if_pos (wanted_none rfl)]
        have f76 := hj.val 31 76 rfl rfl (by simp) rfl (hd ⟨31, .data⟩ (by simp) rfl)
        have f82 := hj.val 37 82 rfl rfl (by simp) rfl (hd ⟨37, .data⟩ (by simp) rfl)
        exact opPick hK rfl (b := false) (ev f76) ((if_neg (by decide)).trans (ev f82)) rfl),
      trivial⟩ ?fin
    case fin =>
      intro vs2 wE hI hg
      have v38 : vs2 38 = _ := hg 38 (by decide)
      have HE : Hid (Lw w [(some ⟨b, 0, none⟩, [97, 98, 99])] [] g e4 wE) := Lib.hid hI
      clear hI hg
      simp only [putAll, v38, Nat.reduceAdd, Nat.zero_add]
      simp only [Act.put, List.setIfInBounds_toArray, List.set_cons_succ, List.set_cons_zero]
      have HZ2 := Lib.hid (Lw.addRow HE.out (x0 _ (.cells (madeCells #[.int .u8 0] 10) 5)) (A := some ⟨wE.heap.size, 0, none⟩) (l := zeros 10) (by have h := (Blk.new wE (madeCells #[.int .u8 0] 10) 5).row; rwa [toList_madeCells_one, ← B8_zeros] at h) (fun ad e => by cases e; simp))
      have hmk := mk10 wE
      go_wp2_with (first
        | (go_at_call 15; refine (lw_writeE HZ2.out f5 _ _ (Lw.row HZ2.out (List.mem_cons_self ..)) (byt_zeros 10) (fun ad e _ => .inl ⟨_, List.mem_cons_self .., e⟩) l4 (by decide)).mono ?_; rintro e wF ⟨rfl, h1, _⟩; have HF := Lib.hid (Lw.sub (rs' := [(some ⟨b, 0, none⟩, [97, 98, 99])]) h1 (fun _ h => List.mem_cons_of_mem _ h) (fun _ h => h)); clear h1 HZ2)
        | (go_at_call 27; refine (is_room (Lw.is HF.out)).mono ?_; rintro e wG ⟨h9, h1⟩; rw [h5] at h9; subst h9; have HG := Lib.hid (HF.out.ext0 h1); clear h1)
        | (go_at_call 28; refine (is_waiting (Lw.is HG.out)).mono ?_; rintro e wH ⟨h9, h1⟩; rw [n5] at h9; subst h9; have HH := Lib.hid (HG.out.ext0 h1); clear h1)
        | (go_at_call 15; refine (lw_writeE HH.out f6 none 0 (Row.nil _ _) (byt_of_B (by decide)) (fun ad e _ => by cases e) l5 (by decide)).mono ?_; rintro e wI ⟨rfl, h1, _⟩; have HI := Lib.hid h1; clear h1)
        | (go_at_call 21; refine (lw_arm HI.out 2 (by omega)).mono ?_; rintro e wJ ⟨rfl, h1, _⟩; have HJ : Hid (Lw w [(some ⟨b, 0, none⟩, [97, 98, 99])] [] g e7 wJ) := Lib.hid h1; clear h1))
      refine wp_region_chain [1, 5, 10, 14, 20, 21, 24, 26] [(0, 0), (0, 1), (1, 1), (1, 1), (1, 1), (1, 2), (2, 2), (2, 2), (2, 2), (2, 2), (2, 3), (3, 3), (3, 3), (3, 3), (3, 4), (4, 4), (4, 4), (4, 4), (4, 4), (4, 4), (4, 5), (5, 6), (4, 6), (4, 6), (6, 7), (7, 7), (7, 8)] (loudS [true, true, false, false, false, false, false, false]) [WLw w [(some ⟨b, 0, none⟩, [97, 98, 99])] [] g e7, WLw w [(some ⟨b, 0, none⟩, [97, 98, 99])] [] g e8, WLw w [(some ⟨b, 0, none⟩, [97, 98, 99])] [] g e9, WLw w [(some ⟨b, 0, none⟩, [97, 98, 99])] [] g e9, WLw w [(some ⟨b, 0, none⟩, [97, 98, 99])] [] g e9, WLw w [(some ⟨b, 0, none⟩, [97, 98, 99])] [] g e9, WLw w [(some ⟨b, 0, none⟩, [97, 98, 99])] [] g e9, WLw w [(some ⟨b, 0, none⟩, [97, 98, 99])] [] g e9, WLw w [(some ⟨b, 0, none⟩, [97, 98, 99])] [] g e9] [cv (.pointer (some ⟨g, 0, none⟩)), cv (.int .i64 0), cv (.bool true), cv (.bool true), cv (.pointer (some ⟨g, 0, none⟩)), cv (.int .i64 11), cv (.bool true), cv (.bool true), cv (.bool true), cv (.pointer (some ⟨g, 0, none⟩)), cv (.bool true), cv (.bool true), cv (.bool true), cv (.pointer (some ⟨g, 0, none⟩)), cRw [true, true, false, false, false, false, false, false] 4 4 rfl [], cv _, cv (.bool true), cv (.bool true), cv (.bool true), cv (.pointer (some ⟨g, 0, none⟩)), cDk [true, true, false, false, false, false, false, false] 5 (crashD e9 0 0), cRw [true, true, false, false, false, false, false, false] 6 6 rfl [97], cv (.slice (some ⟨b, 0, none⟩) 3 3), cv (.slice (some ⟨b, 0, none⟩) 1 3), cv (.bool true), cv (.bool true), cv (.bool true)] (by kernel_rfl) rfl rfl rfl rfl rfl rfl rfl rfl (HJ.out.ext0 (Ext.refl None_ _).drew) ⟨
        (by
          intro Lq aq wq kq hd hj hlo hhi Kq hK
          rw [if_pos (wanted_none rfl)]
          have f1 := hj.base 1 rfl rfl
          exact opMove hK rfl (ev f1) rfl),
        (by
          intro Lq aq wq hd hj Kq hK
          rw [if_pos (wanted_none rfl)]
          have f105 := hj.val 0 105 rfl rfl (by simp) rfl (hd ⟨0, .data⟩ (by simp) rfl)
          exact opCallC hK Try.func25 (by kernel_rfl) rfl (args := #[.pointer (some ⟨g, 0, none⟩)]) (by simp [ev f105]) ((lw_syncE (hj.inv : Lw w [(some ⟨b, 0, none⟩, [97, 98, 99])] [] g e7 wq) f8).mono fun e w' ⟨h1, h2, h3⟩ => ⟨_, h1, rfl, h2, ofAll rfl h3⟩)),
        (by
          intro Lq aq wq kq hd hj hlo hhi Kq hK
          rw [if_pos (wanted_none rfl)]
          have f106 := hj.val 1 106 rfl rfl (by simp) rfl (hd ⟨1, .data⟩ (by simp) rfl)
          exact opBin hK rfl (ev f106) rfl (guardInt _ _ _ _ _ _ _ _ _) (binEqInt _ _ _ _ _) (congrArg Value.bool (by first | rfl | assumption | (simp; omega) | (simp [*]; done)))),
        (by
          intro Lq aq wq kq hd hj hlo hhi Kq hK
          rw [if_pos (wanted_none rfl)]
          have f107 := hj.val 2 107 rfl rfl (by simp) rfl (hd ⟨2, .data⟩ (by simp) rfl)
          exact opMove hK rfl (ev f107) rfl),
        (by
          intro Lq aq wq kq hd hj hlo hhi Kq hK
          have fg := hj.val 3 108 rfl rfl (by simp) rfl (hd ⟨3, .guard⟩ (by simp) rfl)
          rw [wanted_some (c := true) rfl rfl rfl fg, if_pos (by rfl)]
          have f1 := hj.base 1 rfl rfl
          exact opMove hK rfl (ev f1) rfl),
        (by
          intro Lq aq wq hd hj Kq hK
          have fg := hj.val 3 108 rfl rfl (by simp) rfl (hd ⟨3, .guard⟩ (by simp) rfl)
          rw [wanted_some (c := true) rfl rfl rfl fg, if_pos (by rfl)]
          have f109 := hj.val 4 109 rfl rfl (by simp) rfl (hd ⟨4, .data⟩ (by simp) rfl)
          exact opCallC hK Try.func25 (by kernel_rfl) rfl (args := #[.pointer (some ⟨g, 0, none⟩)]) (by simp [ev f109]) ((lw_syncE (hj.inv : Lw w [(some ⟨b, 0, none⟩, [97, 98, 99])] [] g e8 wq) f9).mono fun e w' ⟨h1, h2, h3⟩ => ⟨_, h1, rfl, h2, ofAll rfl h3⟩)),
        (by
          intro Lq aq wq kq hd hj hlo hhi Kq hK
          have fg := hj.val 3 108 rfl rfl (by simp) rfl (hd ⟨3, .guard⟩ (by simp) rfl)
          rw [wanted_some (c := true) rfl rfl rfl fg, if_pos (by rfl)]
          have f110 := hj.val 5 110 rfl rfl (by simp) rfl (hd ⟨5, .data⟩ (by simp) rfl)
          exact opBin hK rfl (ev f110) rfl (guardInt _ _ _ _ _ _ _ _ _) (binEqInt _ _ _ _ _) (congrArg Value.bool (by first | rfl | assumption | (simp; omega) | (simp [*]; done)))),
        (by
          intro Lq aq wq kq hd hj hlo hhi Kq hK
          rw [if_pos (wanted_none rfl)]
          have f108 := hj.val 3 108 rfl rfl (by simp) rfl (hd ⟨3, .data⟩ (by simp) rfl)
          have f111 := hj.val 6 111 rfl rfl (by simp) rfl (hd ⟨6, .data⟩ (by simp) rfl)
          exact opPick hK rfl (b := true) (ev f108) ((if_pos rfl).trans (ev f111)) rfl),
        (by
          intro Lq aq wq kq hd hj hlo hhi Kq hK
          rw [if_pos (wanted_none rfl)]
          have f112 := hj.val 7 112 rfl rfl (by simp) rfl (hd ⟨7, .data⟩ (by simp) rfl)
          exact opMove hK rfl (ev f112) rfl),
        (by
          intro Lq aq wq kq hd hj hlo hhi Kq hK
          have fg := hj.val 8 113 rfl rfl (by simp) rfl (hd ⟨8, .guard⟩ (by simp) rfl)
          rw [wanted_some (c := true) rfl rfl rfl fg, if_pos (by rfl)]
          have f1 := hj.base 1 rfl rfl
          exact opMove hK rfl (ev f1) rfl),
        (by
          intro Lq aq wq hd hj Kq hK
          have fg := hj.val 8 113 rfl rfl (by simp) rfl (hd ⟨8, .guard⟩ (by simp) rfl)
          rw [wanted_some (c := true) rfl rfl rfl fg, if_pos (by rfl)]
          have f114 := hj.val 9 114 rfl rfl (by simp) rfl (hd ⟨9, .data⟩ (by simp) rfl)
          exact opCallC hK Try.func29 (by kernel_rfl) rfl (args := #[.pointer (some ⟨g, 0, none⟩)]) (by simp [ev f114]) ((is_off (Lw.is (hj.inv : Lw w [(some ⟨b, 0, none⟩, [97, 98, 99])] [] g e9 wq))).mono fun e w' ⟨h1, h2⟩ => ⟨_, h1, congrArg Value.bool o9, Lw.ext0 (hj.inv : Lw w [(some ⟨b, 0, none⟩, [97, 98, 99])] [] g e9 wq) h2, ofQ h2⟩)),
        (by
          intro Lq aq wq kq hd hj hlo hhi Kq hK
          rw [if_pos (wanted_none rfl)]
          have f113 := hj.val 8 113 rfl rfl (by simp) rfl (hd ⟨8, .data⟩ (by simp) rfl)
          have f115 := hj.val 10 115 rfl rfl (by simp) rfl (hd ⟨10, .data⟩ (by simp) rfl)
          exact opPick hK rfl (b := true) (ev f113) ((if_pos rfl).trans (ev f115)) rfl),
        (by
          intro Lq aq wq kq hd hj hlo hhi Kq hK
          rw [if_pos (wanted_none rfl)]
          have f116 := hj.val 11 116 rfl rfl (by simp) rfl (hd ⟨11, .data⟩ (by simp) rfl)
          exact opMove hK rfl (ev f116) rfl),
        (by
          intro Lq aq wq kq hd hj hlo hhi Kq hK
          have fg := hj.val 12 117 rfl rfl (by simp) rfl (hd ⟨12, .guard⟩ (by simp) rfl)
          rw [wanted_some (c := true) rfl rfl rfl fg, if_pos (by rfl)]
          have f1 := hj.base 1 rfl rfl
          exact opMove hK rfl (ev f1) rfl),
        (by
          intro Lq aq wq hd hj Kq hK
          have fg := hj.val 12 117 rfl rfl (by simp) rfl (hd ⟨12, .guard⟩ (by simp) rfl)
          rw [wanted_some (c := true) rfl rfl rfl fg, if_pos (by rfl)]
          have f118 := hj.val 13 118 rfl rfl (by simp) rfl (hd ⟨13, .data⟩ (by simp) rfl)
          exact opCallC hK Try.func23 (by kernel_rfl) rfl (args := #[.pointer (some ⟨g, 0, none⟩), .int .i64 1]) (by simp [ev f118]) ((is_readE (Lw.is (hj.inv : Lw w [(some ⟨b, 0, none⟩, [97, 98, 99])] [] g e9 wq)) r7).mono fun e w' ⟨A, c, h1, h2, _, _, _, h3⟩ => ⟨_, h1, ⟨Nat.le_refl _, fun _ => ⟨A, c, rfl, h2⟩⟩, Lw.ext0 (hj.inv : Lw w [(some ⟨b, 0, none⟩, [97, 98, 99])] [] g e9 wq) h3, ofQ h3⟩)),
        (by
          intro Lq aq wq kq hd hj hlo hhi Kq hK
          have fg := hj.val 12 117 rfl rfl (by simp) rfl (hd ⟨12, .guard⟩ (by simp) rfl)
          rw [wanted_some (c := true) rfl rfl rfl fg, if_pos (by rfl)]
          obtain ⟨u119, f119, g119⟩ := hj.at_ 14 119 rfl rfl (by simp) (hd ⟨14, .data⟩ (by simp) rfl)
          obtain ⟨A7, c7, rfl, _⟩ := g119.2 hhi
          exact opLen hK rfl (ev f119) (by kernel_rfl) rfl),
        (by
          intro Lq aq wq kq hd hj hlo hhi Kq hK
          have fg := hj.val 12 117 rfl rfl (by simp) rfl (hd ⟨12, .guard⟩ (by simp) rfl)
          rw [wanted_some (c := true) rfl rfl rfl fg, if_pos (by rfl)]
          have f120 := hj.val 15 120 rfl rfl (by simp) rfl (hd ⟨15, .data⟩ (by simp) rfl)
          exact opBin hK rfl (ev f120) rfl (guardInt _ _ _ _ _ _ _ _ _) (binEqInt _ _ _ _ _) (congrArg Value.bool (by first | rfl | assumption | (simp; omega) | (simp [*]; done)))),
        (by
          intro Lq aq wq kq hd hj hlo hhi Kq hK
          rw [if_pos (wanted_none rfl)]
          have f117 := hj.val 12 117 rfl rfl (by simp) rfl (hd ⟨12, .data⟩ (by simp) rfl)
          have f121 := hj.val 16 121 rfl rfl (by simp) rfl (hd ⟨16, .data⟩ (by simp) rfl)
          exact opPick hK rfl (b := true) (ev f117) ((if_pos rfl).trans (ev f121)) rfl),
        (by
          intro Lq aq wq kq hd hj hlo hhi Kq hK
          rw [if_pos (wanted_none rfl)]
          have f122 := hj.val 17 122 rfl rfl (by simp) rfl (hd ⟨17, .data⟩ (by simp) rfl)
          exact opMove hK rfl (ev f122) rfl),
        (by
          intro Lq aq wq kq hd hj hlo hhi Kq hK
          have fg := hj.val 18 123 rfl rfl (by simp) rfl (hd ⟨18, .guard⟩ (by simp) rfl)
          rw [wanted_some (c := true) rfl rfl rfl fg, if_pos (by rfl)]
          have f1 := hj.base 1 rfl rfl
          exact opMove hK rfl (ev f1) rfl),
        (by
          intro Lq aq wq hd hj Kq hK
          have fg := hj.val 18 123 rfl rfl (by simp) rfl (hd ⟨18, .guard⟩ (by simp) rfl)
          rw [wanted_some (c := true) rfl rfl rfl fg, if_pos (by rfl)]
          have f124 := hj.val 19 124 rfl rfl (by simp) rfl (hd ⟨19, .data⟩ (by simp) rfl)
          exact opCallC hK Try.func22 (by kernel_rfl) rfl (args := #[.pointer (some ⟨g, 0, none⟩), .int .i64 0, .int .i64 0]) (by simp [ev f124]) ((is_crash (Lw.is (hj.inv : Lw w [(some ⟨b, 0, none⟩, [97, 98, 99])] [] g e9 wq)) 0 0 (by unfold I64; omega) l9).mono fun e w' ⟨g', h1, h2, h3⟩ => ⟨_, h1, ⟨Nat.le_refl _, fun _ => ⟨g', rfl, h2⟩⟩, Lw.ext0 (hj.inv : Lw w [(some ⟨b, 0, none⟩, [97, 98, 99])] [] g e9 wq) h3, ofQ h3⟩)),
        (by
          intro Lq aq wq hd hj Kq hK
          have fg := hj.val 18 123 rfl rfl (by simp) rfl (hd ⟨18, .guard⟩ (by simp) rfl)
          rw [wanted_some (c := true) rfl rfl rfl fg, if_pos (by rfl)]
          obtain ⟨u125, f125, g125⟩ := hj.at_ 20 125 rfl rfl (by simp) (hd ⟨20, .data⟩ (by simp) rfl)
          obtain ⟨g7, rfl, hg7⟩ := g125.2 (Nat.le_refl _)
          exact opCallC hK Try.func23 (by kernel_rfl) rfl (args := #[.pointer (some ⟨g7, 0, none⟩), .int .i64 1]) (by simp [ev f125]) ((is_readE hg7 r8).mono fun e w' ⟨A, c, h1, h2, _, _, _, h3⟩ => ⟨_, h1, ⟨Nat.le_refl _, fun _ => ⟨A, c, rfl, h2⟩⟩, Lw.ext0 (hj.inv : Lw w [(some ⟨b, 0, none⟩, [97, 98, 99])] [] g e9 wq) h3, ofQ h3⟩)),
        (by
          intro Lq aq wq kq hd hj hlo hhi Kq hK
          have fg := hj.val 18 123 rfl rfl (by simp) rfl (hd ⟨18, .guard⟩ (by simp) rfl)
          rw [wanted_some (c := true) rfl rfl rfl fg, if_pos (by rfl)]
          have f3 := hj.base 3 rfl rfl
          exact opMove hK rfl (ev f3) rfl),
        (by
          intro Lq aq wq kq hd hj hlo hhi Kq hK
          have fg := hj.val 18 123 rfl rfl (by simp) rfl (hd ⟨18, .guard⟩ (by simp) rfl)
          rw [wanted_some (c := true) rfl rfl rfl fg, if_pos (by rfl)]
          have f127 := hj.val 22 127 rfl rfl (by simp) rfl (hd ⟨22, .data⟩ (by simp) rfl)
          exact opSliceOp hK rfl (ev f127) rfl rfl rfl Try.underlying22 (fun W => by kernel_rfl) rfl),
        (by
          intro Lq aq wq hd hj Kq hK
          have fg := hj.val 18 123 rfl rfl (by simp) rfl (hd ⟨18, .guard⟩ (by simp) rfl)
          rw [wanted_some (c := true) rfl rfl rfl fg, if_pos (by rfl)]
          obtain ⟨u126, f126, g126⟩ := hj.at_ 21 126 rfl rfl (by simp) (hd ⟨21, .data⟩ (by simp) rfl)
          have f128 := hj.val 23 128 rfl rfl (by simp) rfl (hd ⟨23, .data⟩ (by simp) rfl)
          obtain ⟨A0, c0, rfl, r0⟩ := g126.2 (Nat.le_refl _)
          exact opCallC hK Try.func24 (by kernel_rfl) rfl (args := #[.slice A0 ([97] : List Int).length c0, .slice (some ⟨b, 0, none⟩) ([97] : List Int).length 3]) (by simp [ev f126, ev f128]) ((same_any A0 c0 [97] (some ⟨b, 0, none⟩) 3 [97] wq r0 (Row.take (Lw.row (hj.inv : Lw w [(some ⟨b, 0, none⟩, [97, 98, 99])] [] g e9 wq) (List.mem_cons_self ..)) 1) (by decide) (by decide)).mono fun e w' ⟨h1, h2⟩ => ⟨_, h1, congrArg Value.bool (by decide), Lw.ext0 (hj.inv : Lw w [(some ⟨b, 0, none⟩, [97, 98, 99])] [] g e9 wq) h2, ofQ h2⟩)),
        (by
          intro Lq aq wq kq hd hj hlo hhi Kq hK
          rw [if_pos (wanted_none rfl)]
          have f123 := hj.val 18 123 rfl rfl (by simp) rfl (hd ⟨18, .data⟩ (by simp) rfl)
          have f129 := hj.val 24 129 rfl rfl (by simp) rfl (hd ⟨24, .data⟩ (by simp) rfl)
          exact opPick hK rfl (b := true) (ev f123) ((if_pos rfl).trans (ev f129)) rfl),
        (by
          intro Lq aq wq hd hj Kq hK
          rw [if_pos (wanted_none rfl)]
          have f130 := hj.val 25 130 rfl rfl (by simp) rfl (hd ⟨25, .data⟩ (by simp) rfl)
          exact opAssignC hK rfl (ev f130) rfl hj.inv (Ext.refl _ _)),
        trivial⟩ ?fin
      case fin =>
        intro vs3 wK hI hg
        have v26 : vs3 26 = _ := hg 26 (by decide)
        have HK : Hid (Lw w [(some ⟨b, 0, none⟩, [97, 98, 99])] [] g e9 wK) := Lib.hid hI
        clear hI hg
        simp only [putAll, v26, Nat.reduceAdd, Nat.zero_add]
        simp only [Act.put, List.setIfInBounds_toArray, List.set_cons_succ, List.set_cons_zero]
        go_wp2_with fail
        go_ret
        exact ⟨rfl, HK.out.x⟩
end Go.Proofs.Ytakcdmmniaipeaa
