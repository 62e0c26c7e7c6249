/- FrameRuns, walked: the closed sentence of chapter 21. Written by gen_frq.py. -/
import Derived.Test.YtghkgfeamijefaaScan
import Derived.Test.YtghkgfeamijefaaSeals
set_option linter.unusedVariables false
set_option linter.unusedSimpArgs false
namespace Go.Proofs.Ytghkgfeamijefaa
open Go.RowKit B
theorem parts_lit (w : World) (l : List Int) (n : Nat) (hn : l.length = n) (hb : Byt l) (hl : n ≤ 140737488355328) : Parts ((w.alloc (.cells (B8 l).toArray 5)).alloc (.cells #[.slice (some ⟨w.heap.size, 0, none⟩) n n] 22)) (some ⟨w.heap.size + 1, 0, none⟩) [l] := by
  subst hn
  have h := Blk.cell (Blk.new (w.alloc (.cells (B8 l).toArray 5)) #[.slice (some ⟨w.heap.size, 0, none⟩) l.length l.length] 22) 0
  rw [show (w.alloc (.cells (B8 l).toArray 5)).heap.size = w.heap.size + 1 by simp] at h
  exact parts_one h ((by simpa using (Blk.new w (B8 l).toArray 5).row : Row _ _ (B8 l)).ext0 (x0 _ _)) hb hl
theorem putK (A : Option Addr) (c : Nat) (b : List Int) (A2 : Option Addr) (c2 : Nat) (p : List Int) (n m : Nat) (hn : b.length = n) (hm : p.length = m) (w : World) (r : List Int) (hrr : putF b p = r) (hr1 : Row w A (B8 b)) (hr2 : Row w A2 (B8 p)) (hb : Byt p) (hlen : n + m + 8 ≤ 140737488355328) :
    Calls Try.prog 47 #[.slice A n c, .slice A2 m c2] w fun e w' => ∃ A' c', e = .returned (.slice A' r.length c') ∧ r.length ≤ c' ∧ Row w' A' (B8 r) ∧ Ext None_ w w' := by
  subst hn hm hrr
  exact (putFr_any A c b A2 c2 p w hr1 hr2 hb hlen).mono fun e w' ⟨v, h1, h2, h3⟩ => by
    obtain ⟨A', c', rfl, hc, hr⟩ := OwnB.sl h2
    exact ⟨A', c', h1, hc, hr, h3⟩
theorem nextK (A : Option Addr) (c : Nat) (l : List Int) (n : Nat) (hn : l.length = n) (k : Int) (w : World) (p : List Int) (t e0 : Int) (hf : nextF l k = (p, t, e0)) (hrow : Row w A (B8 l)) (hb : Byt l) (hc : n ≤ c) (hlen : n ≤ 140737488355328) :
    Calls Try.prog 73 #[.slice A n c, .int .i64 k] w fun e w' => ∃ A' c', e = .returned (.tuple #[.slice A' p.length c', .int .i64 t, .int .i64 e0]) ∧ Ext None_ w w' := by
  subst hn
  exact (next_any A c l k w hrow hb hc hlen).mono fun e w' ⟨v, h1, h2, h3⟩ => by
    rw [hf] at h1 h2
    obtain ⟨A', c', rfl, _, _⟩ := OwnB.sl h2
    exact ⟨A', c', h1, h3⟩
theorem scanK (A : Option Addr) (c : Nat) (l : List Int) (n : Nat) (hn : l.length = n) (w : World) (r : List Int) (k : Int) (hf : scanF l = ([r], k)) (hrow : Row w A (B8 l)) (hb : Byt l) (hc : n ≤ c) (hlen : n ≤ 1048576) :
    Calls Try.prog 44 #[.slice A n c] w fun e w' => ∃ g o b A' c', e = .returned (.tuple #[.slice (some ⟨g, o, none⟩) 1 b, .int .i64 k]) ∧ w'.cell? ⟨g, o, none⟩ = some (.slice A' r.length c') ∧ Row w' A' (B8 r) ∧ Ext None_ w w' := by
  subst hn
  exact (Scan_any A c l w hrow hb hc hlen).mono fun e w' h => by
    unfold ScanP at h
    rw [hf] at h
    obtain ⟨B, b, us, h1, h2, h3⟩ := h
    have hl := h2.len
    obtain ⟨u, rfl⟩ : ∃ u, us = [u] := by
      match us, hl with
      | [u], _ => exact ⟨u, rfl⟩
    have ho := h2.own 0 u r rfl rfl
    obtain ⟨A', c', rfl, _, hr⟩ := OwnB.sl ho
    obtain ⟨g, o, q, hv, _, hcl⟩ := h2.tab.cells (by simp)
    simp only [List.length_cons, List.length_nil, Nat.zero_add] at h1 hv
    injection hv with hv _ _
    subst hv
    exact ⟨g, o, b, A', c', h1, hcl 0 _ rfl, hr, h3⟩
set_option maxRecDepth 100000 in
set_option maxHeartbeats 16000000 in
theorem FrameRuns_any (w : World) : Calls Try.prog 46 #[] w fun e w' => e = .returned (.bool true) ∧ Ext None_ w w' := by
  have P1 := Lib.hid (show putF [] [97] = [1, 0, 0, 0, 99, 143, 247, 193, 97] by decide +kernel)
  have P2 := Lib.hid (show putF [1, 0, 0, 0, 99, 143, 247, 193, 97] [97] = [1, 0, 0, 0, 99, 143, 247, 193, 97, 1, 0, 0, 0, 99, 143, 247, 193, 97] by decide +kernel)
  have HS := Lib.hid (show nt (sumOf 0#32 [[1, 0, 0, 0, 97]].flatten) = 3254226787 by decide +kernel)
  have N1 := Lib.hid (show nextF [0, 0, 0, 0, 0, 0, 0, 0] 0 = ([], 0, 6) by decide +kernel)
  have N2 := Lib.hid (show nextF [0, 0, 0, 0, 0, 0, 0] 0 = ([], 0, 3) by decide +kernel)
  have N3 := Lib.hid (show nextF [] 0 = ([], 0, 8) by decide +kernel)
  have N4 := Lib.hid (show nextF [] 1 = ([], 0, 1) by decide +kernel)
  have N5 := Lib.hid (show nextF [1, 64, 0, 0, 0, 0, 0, 0] 0 = ([], 0, 2) by decide +kernel)
  have SC := Lib.hid (show scanF [1, 0, 0, 0, 99, 143, 247, 193, 97, 1, 0, 0, 0, 99, 143, 247, 193] = ([[97]], 9) by decide +kernel)
  have X0 := Lib.hid (Ext.refl None_ w)
  go_enter Try.func46, Try.ntmps46
  go_wp2_with (first
    | (refine wpList_mark rfl (.tmp 21) rfl w.heap.size [97] 1 rfl rfl (heap_alloc_new w _) ?_; intro w1 hx hr; have X1 := Lib.hid (X0.out.trans0 (lit_ext (Nat.le_refl _) (x0 w _) hx)); have R1 := Lib.hid hr; clear X0; clear hx hr)
    | (go_at_call 47; refine (putK none 0 [] (some ⟨w.heap.size, 0, none⟩) 1 [97] 0 1 rfl rfl _ [1, 0, 0, 0, 99, 143, 247, 193, 97] P1.out (Row.nil _ _) R1.out (by decide) (by decide)).mono ?_; rintro e wA ⟨Aa, ca, rfl, hca, hra, hx⟩; have XA := Lib.hid (X1.out.trans0 hx); have RA := Lib.hid hra; clear hx hra hca R1 X1 P1)
    | (go_at_call 70; refine (ofK (some ⟨wA.heap.size + 1, 0, none⟩) 1 [[1, 0, 0, 0, 97]] 1 rfl _ _ HS.out (parts_lit wA [1, 0, 0, 0, 97] 5 rfl (by decide) (by decide)) (by decide)).mono ?_; rintro e wB ⟨rfl, hw⟩; have XB : Hid (Ext None_ w wB) := Lib.hid (hw ▸ (XA.out.trans0 (x0 wA _)).trans0 (x0 _ _)); have RB : Hid (Row wB Aa (B8 [1, 0, 0, 0, 99, 143, 247, 193, 97])) := Lib.hid (hw ▸ (RA.out.ext0 (x0 wA _)).ext0 (x0 _ _)); clear hw XA RA HS)
    | (refine wpList_mark rfl (.tmp 28) rfl wB.heap.size [97] 1 rfl rfl (heap_alloc_new wB _) ?_; intro w2 hx hr; have X2 := Lib.hid (XB.out.trans0 (lit_ext (Nat.le_refl _) (x0 wB _) hx)); have R2 := Lib.hid hr; have RB2 := Lib.hid (RB.out.ext0 (lit_ext (Nat.le_refl _) (x0 wB _) hx)); clear XB RB; clear hx hr)
    | (go_at_call 47; refine (putK Aa ca [1, 0, 0, 0, 99, 143, 247, 193, 97] (some ⟨wB.heap.size, 0, none⟩) 1 [97] 9 1 rfl rfl _ [1, 0, 0, 0, 99, 143, 247, 193, 97, 1, 0, 0, 0, 99, 143, 247, 193, 97] P2.out RB2.out R2.out (by decide) (by decide)).mono ?_; rintro e wC ⟨At, ct, rfl, hct, hrt, hx⟩; have XC := Lib.hid (X2.out.trans0 hx); have RC := Lib.hid (RB2.out.ext0 hx); have RT := Lib.hid hrt; have hct18 : 18 ≤ ct := hct; clear hx hrt hct R2 X2 RB2 P2)
    | (go_at_call 25; refine (sameK Aa ca [1, 0, 0, 0, 99, 143, 247, 193, 97] 9 rfl (some ⟨wC.heap.size, 0, none⟩) 9 _ (RC.out.ext0 (x0 _ _)) (Blk.row (Blk.new wC _ _)) (by decide)).mono ?_; rintro e wD ⟨rfl, hx⟩; have XD := Lib.hid (XC.out.trans0 ((x0 wC _).trans0 hx)); have RT2 := Lib.hid (RT.out.ext0 ((x0 wC _).trans0 hx)); clear hx RC XC RT)
    | (refine wpList_mk8 rfl (.const (.int .i64 8)) rfl 8 8 rfl rfl (by decide) ?_)
    | (go_at_call 73; refine (nextK (some ⟨wD.heap.size, 0, none⟩) 8 [0, 0, 0, 0, 0, 0, 0, 0] 8 rfl 0 _ _ _ _ N1.out (Blk.row (Blk.new wD _ _)) (by decide) (by decide) (by decide)).mono ?_; rintro e wE ⟨A1, c1, rfl, hx⟩; have XE := Lib.hid (XD.out.trans0 ((x0 wD _).trans0 hx)); have RT3 := Lib.hid (RT2.out.ext0 ((x0 wD _).trans0 hx)); clear hx XD RT2 N1)
    | (refine wpList_mk8 rfl (.const (.int .i64 7)) rfl 7 7 rfl rfl (by decide) ?_)
    | (go_at_call 73; refine (nextK (some ⟨wE.heap.size, 0, none⟩) 7 [0, 0, 0, 0, 0, 0, 0] 7 rfl 0 _ _ _ _ N2.out (Blk.row (Blk.new wE _ _)) (by decide) (by decide) (by decide)).mono ?_; rintro e wF ⟨A2, c2, rfl, hx⟩; have XF := Lib.hid (XE.out.trans0 ((x0 wE _).trans0 hx)); have RT4 := Lib.hid (RT3.out.ext0 ((x0 wE _).trans0 hx)); clear hx XE RT3 N2)
    | (go_at_call 73; refine (nextK none 0 [] 0 rfl 0 _ _ _ _ N3.out (Row.nil _ _) (by decide) (by decide) (by decide)).mono ?_; rintro e wG ⟨A3, c3, rfl, hx⟩; have XG := Lib.hid (XF.out.trans0 hx); have RT5 := Lib.hid (RT4.out.ext0 hx); clear hx XF RT4 N3)
    | (go_at_call 73; refine (nextK none 0 [] 0 rfl 1 _ _ _ _ N4.out (Row.nil _ _) (by decide) (by decide) (by decide)).mono ?_; rintro e wH ⟨A4, c4, rfl, hx⟩; have XH := Lib.hid (XG.out.trans0 hx); have RT6 := Lib.hid (RT5.out.ext0 hx); clear hx XG RT5 N4)
    | (go_at_call 73; refine (nextK (some ⟨wH.heap.size, 0, none⟩) 8 [1, 64, 0, 0, 0, 0, 0, 0] 8 rfl 0 _ _ _ _ N5.out (Blk.row (Blk.new wH _ _)) (by decide) (by decide) (by decide)).mono ?_; rintro e wI ⟨A5, c5, rfl, hx⟩; have XI := Lib.hid (XH.out.trans0 ((x0 wH _).trans0 hx)); have RT7 := Lib.hid (RT6.out.ext0 ((x0 wH _).trans0 hx)); obtain ⟨A17, hA17, hcut⟩ := cut_h (P := Try.prog) 22 5 1 Try.underlying22 infoU8 At 18 ct 17 (by decide) (by omega); have HRS := Lib.hid (show Row wI A17 (B8 [1, 0, 0, 0, 99, 143, 247, 193, 97, 1, 0, 0, 0, 99, 143, 247, 193]) by have := cut_row (lo := 0) (hi := 17) (size := 1) RT7.out hA17 (by rw [B8_length]; simp; omega); simpa [B8] using this); clear hx XH RT6 RT7 N5 hA17)
    | (go_at_call 44; refine (scanK A17 ct [1, 0, 0, 0, 99, 143, 247, 193, 97, 1, 0, 0, 0, 99, 143, 247, 193] 17 rfl _ [97] 9 SC.out HRS.out (by decide) (by omega) (by decide)).mono ?_; rintro e wJ ⟨g, o, b, Ar, cr, rfl, hcl, hr, hx⟩; have XJ := Lib.hid (XI.out.trans0 hx); have RR := Lib.hid hr; clear hx hr XI HRS SC)
    | (refine wpList_mark rfl (.tmp 116) rfl wJ.heap.size [97] 1 rfl rfl (heap_alloc_new wJ _) ?_; intro w3 hx hr; have X3 := Lib.hid (XJ.out.trans0 (lit_ext (Nat.le_refl _) (x0 wJ _) hx)); have R3 := Lib.hid hr; have RR2 := Lib.hid (RR.out.ext0 (lit_ext (Nat.le_refl _) (x0 wJ _) hx)); clear XJ RR; clear hx hr)
    | (go_at_call 25; refine (sameK Ar cr [97] 1 rfl (some ⟨wJ.heap.size, 0, none⟩) 1 _ RR2.out R3.out (by decide)).mono ?_; rintro e wK ⟨rfl, hx⟩; have XK := Lib.hid (X3.out.trans0 hx); clear hx X3 RR2 R3))
  go_ret
  exact ⟨rfl, XK.out⟩
end Go.Proofs.Ytghkgfeamijefaa
