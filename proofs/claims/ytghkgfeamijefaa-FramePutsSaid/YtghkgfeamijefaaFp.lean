/- Appends past 2^47 bytes; frame.Put and the document's Frame, for bytes of any length. Written by gen_fp.py. -/
import Derived.Test.YtghkgfeamijefaaFrQ
import Derived.Test.YtghkgfeamijefaaWide
set_option linter.unusedVariables false
set_option linter.unusedSimpArgs false
namespace Go.Proofs.Ytghkgfeamijefaa
open Go.RowKit B
set_option maxRecDepth 100000 in
set_option maxHeartbeats 8000000 in
theorem putW_long (A : Option Addr) (c : Nat) (b : List Int) (A2 : Option Addr) (c2 : Nat) (p : List Int) (w : World) (hr1 : Row w A (B8 b)) (hlen : b.length ≤ 140737488351232) (hlenp : p.length ≤ 140737488351232) (hl : 16384 < p.length) :
    Calls Try.prog 47 #[.slice A b.length c, .slice A2 p.length c2] w fun e w' => ∃ v', e = .returned v' ∧ OwnB w' (fun k => w.heap.size ≤ k) v' (putF b p) ∧ Ext None_ w w' := by
  have HPE : Hid (putF b p = b) := Lib.hid (by unfold putF; rw [if_pos hl, List.append_nil])
  obtain ⟨hmk, hm⟩ := mkW0 (b.length + 8 + p.length) (by omega)
  have HM := Lib.hid (hm w)
  have HR1 := Lib.hid hr1
  rw [Int.natCast_add, Int.natCast_add, show ((8 : Nat) : Int) = 8 from rfl] at hmk
  clear hr1 hm
  go_enter Try.func47, Try.ntmps47
  go_wp2_with (at_builtin; refine appW8 rfl (.tmp 14) (.tmp 15) rfl (.slice (some ⟨w.heap.size, 0, none⟩) 0 (b.length + 8 + p.length)) [] b A c rfl rfl HM.out (HR1.out.ext0 (x0 _ _)) (by simp; omega) ?_; intro v1 w1 ho1 hx1; have HA := Lib.hid (appNew (x0 w _) (OwnB.mono HM.out (fun k _ e => by omega)) ho1 hx1); clear ho1 hx1 hmk HM)
  go_ret
  rw [HPE.out]
  exact ⟨_, rfl, by simpa using HA.out.1, HA.out.2⟩
set_option maxRecDepth 100000 in
set_option maxHeartbeats 8000000 in
theorem putW_short (A : Option Addr) (c : Nat) (b : List Int) (A2 : Option Addr) (c2 : Nat) (p : List Int) (w : World) (hr1 : Row w A (B8 b)) (hr2 : Row w A2 (B8 p)) (hb : Byt p) (hlen : b.length ≤ 140737488351232) (hlenp : p.length ≤ 140737488351232) (hl : p.length ≤ 16384) :
    Calls Try.prog 47 #[.slice A b.length c, .slice A2 p.length c2] w fun e w' => ∃ v', e = .returned v' ∧ OwnB w' (fun k => w.heap.size ≤ k) v' (putF b p) ∧ Ext None_ w w' := by
  have HPE : Hid (putF b p = b ++ frameS p) := Lib.hid (by unfold putF; rw [if_neg (by omega)])
  obtain ⟨hmk, hm⟩ := mkW0 (b.length + 8 + p.length) (by omega)
  have HM := Lib.hid (hm w)
  have HR1 := Lib.hid hr1
  have HR2 := Lib.hid hr2
  have HB := Lib.hid hb
  have HFL := Lib.hid (frameS_len p)
  rw [Int.natCast_add, Int.natCast_add, show ((8 : Nat) : Int) = 8 from rfl] at hmk
  have HF4 : Hid (∀ W, Calls Try.prog 75 #[.int .u32 (p.length : Int)] W fun e w' => ∃ v', e = .returned v' ∧ OwnB w' (fun k => W.heap.size ≤ k) v' (hdp p) ∧ Ext None_ W w') := Lib.hid (fun W => by
    have h := four_any (BitVec.ofInt 32 (p.length : Int)) W
    rwa [nt_ofInt _ (by omega) (by omega)] at h)
  obtain ⟨S, hS⟩ : ∃ S, S = sumOf 0#32 (hdp p ++ p) := ⟨_, rfl⟩
  have HS := Lib.hid hS
  have HFS : Hid (frameS p = hdp p ++ le4 S ++ p) := Lib.hid (by rw [hS]; rfl)
  have hbd := nt_bounds S
  obtain ⟨hb0, hb1⟩ := hbd
  have HFS4 : Hid (∀ W, Calls Try.prog 75 #[.int .u32 (nt S)] W fun e w' => ∃ v', e = .returned v' ∧ OwnB w' (fun k => W.heap.size ≤ k) v' (le4 S) ∧ Ext None_ W w') := Lib.hid (fun W => four_any S W)
  obtain ⟨NS, hNS⟩ : ∃ NS, NS = nt S := ⟨_, rfl⟩
  have HNS := Lib.hid hNS
  rw [← hNS] at HFS4 hb0 hb1
  clear hr1 hr2 hb hm hS hNS
  go_enter Try.func47, Try.ntmps47
  go_wp2_with (first
    | (at_builtin; refine appW8 rfl (.tmp 14) (.tmp 15) rfl (.slice (some ⟨w.heap.size, 0, none⟩) 0 (b.length + 8 + p.length)) [] b A c rfl rfl HM.out (HR1.out.ext0 (x0 _ _)) (by simp; omega) ?_; intro v1 w1 ho1 hx1; obtain ⟨ha1, ha2⟩ := appNew (x0 w _) (OwnB.mono HM.out (fun k _ e => by omega)) ho1 hx1; rw [List.nil_append] at ha1; have HA := Lib.hid ha1; have HAX := Lib.hid ha2; clear ho1 hx1 hmk HM ha1 ha2)
    | (go_at_call 75; refine (HF4.out _).mono ?_; rintro e w2 ⟨v2, rfl, h2, hx2⟩; obtain ⟨Ah, ch, rfl, hrh⟩ := own_sl h2; have HRH := Lib.hid hrh; have HH := Lib.hid h2; have HA2 := Lib.hid (OwnB.ext0 HA.out hx2); have HX2 := Lib.hid (HAX.out.trans0 hx2); have HV1 : Hid (∀ k, v1.ownBlock = some k → k < w1.heap.size) := Lib.hid (fun k hk => Own.lt HA.out k hk); clear h2 hx2 HF4 HA HAX hrh)
    | (at_builtin; refine appW8 rfl (.tmp 25) (.tmp 26) rfl v1 b (hdp p) Ah ch rfl rfl HA2.out HRH.out (by rw [hdp_len]; omega) ?_; intro v3 w3 ho3 hx3; obtain ⟨ha1, ha2⟩ := appNew HX2.out HA2.out ho3 hx3; have HA3 := Lib.hid ha1; have HX3 := Lib.hid ha2; have HH3 := Lib.hid (ownFar HH.out HV1.out hx3); clear ho3 hx3 ha1 ha2 HA2 HX2 HH HRH)
    | (go_at_call 70; have hr' := own_row (OwnB.ext0 HH3.out (x0 _ (.cells #[.slice Ah (hdp p).length ch, .slice A2 p.length c2] 22))); have h := of_any (some ⟨w3.heap.size, 0, none⟩) 2 [hdp p, p] (w3.alloc (.cells #[.slice Ah (hdp p).length ch, .slice A2 p.length c2] 22)) (parts_two ((Blk.new w3 _ _).cell 0) ((Blk.new w3 _ _).cell 1) hr' (HR2.out.ext0 (HX3.out.trans0 (x0 _ _))) (le4_byt _) HB.out (by rw [hdp_len]; omega) (by omega)) (by simp); rw [show [hdp p, p].flatten = hdp p ++ p by simp, ← HS.out, ← HNS.out] at h; refine h.mono ?_; rintro e w5 ⟨rfl, rfl⟩; have HA5 := Lib.hid (OwnB.ext0 HA3.out (x0 _ (.cells #[.slice Ah (hdp p).length ch, .slice A2 p.length c2] 22))); have HX5 := Lib.hid (HX3.out.trans0 (x0 _ (.cells #[.slice Ah (hdp p).length ch, .slice A2 p.length c2] 22))); clear h HH3 HA3 HX3)
    | (go_at_call 75; refine (HFS4.out _).mono ?_; rintro e w6 ⟨v6, rfl, h6, hx6⟩; obtain ⟨Ag, cg, rfl, hrg⟩ := own_sl h6; have HRG := Lib.hid hrg; have HA6 := Lib.hid (OwnB.ext0 HA5.out hx6); have HX6 := Lib.hid (HX5.out.trans0 hx6); clear h6 hx6 hrg HA5 HX5)
    | (at_builtin; refine appW8 rfl (.tmp 28) (.tmp 33) rfl v3 (b ++ hdp p) (le4 S) Ag cg rfl rfl HA6.out HRG.out (by rw [List.length_append, hdp_len, le4_len]; omega) ?_; intro v7 w7 ho7 hx7; obtain ⟨ha1, ha2⟩ := appNew HX6.out HA6.out ho7 hx7; have HA7 := Lib.hid ha1; have HX7 := Lib.hid ha2; clear ho7 hx7 ha1 ha2 HA6 HX6 HRG)
    | (at_builtin; refine appW8 rfl (.tmp 35) (.tmp 36) rfl v7 (b ++ hdp p ++ le4 S) p A2 c2 rfl rfl HA7.out (HR2.out.ext0 HX7.out) (by rw [List.length_append, List.length_append, hdp_len, le4_len]; omega) ?_; intro v8 w8 ho8 hx8; obtain ⟨ha1, ha2⟩ := appNew HX7.out HA7.out ho8 hx8; have HA8 := Lib.hid ha1; have HX8 := Lib.hid ha2; clear ho8 hx8 ha1 ha2 HA7 HX7))
  go_ret
  rw [HPE.out, HFS.out]
  exact ⟨_, rfl, by simpa using HA8.out, HX8.out⟩
theorem putW_any (A : Option Addr) (c : Nat) (b : List Int) (A2 : Option Addr) (c2 : Nat) (p : List Int) (w : World) (hr1 : Row w A (B8 b)) (hr2 : Row w A2 (B8 p)) (hb : Byt p) (hlen : b.length ≤ 140737488351232) (hlenp : p.length ≤ 140737488351232) :
    Calls Try.prog 47 #[.slice A b.length c, .slice A2 p.length c2] w fun e w' => ∃ v', e = .returned v' ∧ OwnB w' (fun k => w.heap.size ≤ k) v' (putF b p) ∧ Ext None_ w w' := by
  by_cases hl : p.length ≤ 16384
  · exact putW_short A c b A2 c2 p w hr1 hr2 hb hlen hlenp hl
  · exact putW_long A c b A2 c2 p w hr1 hlen hlenp (by omega)
set_option maxRecDepth 100000 in
set_option maxHeartbeats 8000000 in
theorem rframe_long (A : Option Addr) (c : Nat) (b : List Int) (A2 : Option Addr) (c2 : Nat) (p : List Int) (w : World) (hr1 : Row w A (B8 b)) (hlen : b.length ≤ 140737488351232) (hlenp : p.length ≤ 140737488351232) (hl : 16384 < p.length) :
    Calls Try.prog 48 #[.slice A b.length c, .slice A2 p.length c2] w fun e w' => ∃ v', e = .returned v' ∧ OwnB w' (fun k => w.heap.size ≤ k) v' (putF b p) ∧ Ext None_ w w' := by
  have HPE : Hid (putF b p = b) := Lib.hid (by unfold putF; rw [if_pos hl, List.append_nil])
  have HR1 := Lib.hid hr1
  clear hr1
  go_enter Try.func48, Try.ntmps48
  go_wp2_with (at_builtin; refine appW8 rfl (.tmp 8) (.tmp 9) rfl (.slice (some ⟨w.heap.size, 0, none⟩) 0 0) [] b A c rfl rfl (made0 w) (HR1.out.ext0 (x0 _ _)) (by simp; omega) ?_; intro v1 w1 ho1 hx1; have HA := Lib.hid (appNew (x0 w _) (made0 w) ho1 hx1); clear ho1 hx1)
  go_ret
  rw [HPE.out]
  exact ⟨_, rfl, by simpa using HA.out.1, HA.out.2⟩
set_option maxRecDepth 100000 in
set_option maxHeartbeats 8000000 in
theorem rframe_short (A : Option Addr) (c : Nat) (b : List Int) (A2 : Option Addr) (c2 : Nat) (p : List Int) (w : World) (hr1 : Row w A (B8 b)) (hr2 : Row w A2 (B8 p)) (hb : Byt p) (hlen : b.length ≤ 140737488351232) (hl : p.length ≤ 16384) :
    Calls Try.prog 48 #[.slice A b.length c, .slice A2 p.length c2] w fun e w' => ∃ v', e = .returned v' ∧ OwnB w' (fun k => w.heap.size ≤ k) v' (putF b p) ∧ Ext None_ w w' := by
  have HPE : Hid (putF b p = b ++ frameS p) := Lib.hid (by unfold putF; rw [if_neg (by omega)])
  have HR1 := Lib.hid hr1
  have HR2 := Lib.hid hr2
  have HB := Lib.hid hb
  have HF4 : Hid (∀ W, Calls Try.prog 76 #[.int .u32 (p.length : Int)] W fun e w' => ∃ v', e = .returned v' ∧ OwnB w' (fun k => W.heap.size ≤ k) v' (hdp p) ∧ Ext None_ W w') := Lib.hid (fun W => by
    have h := rfour_any (BitVec.ofInt 32 (p.length : Int)) W
    rwa [nt_ofInt _ (by omega) (by omega)] at h)
  obtain ⟨T, hT⟩ : ∃ T, T = sumOf 0#32 (hdp p) := ⟨_, rfl⟩
  obtain ⟨S, hS⟩ : ∃ S, S = sumOf T p := ⟨_, rfl⟩
  have HFS : Hid (frameS p = hdp p ++ le4 S ++ p) := Lib.hid (by rw [hS, hT, ← sumOf_append]; rfl)
  have hbd := nt_bounds S
  obtain ⟨hb0, hb1⟩ := hbd
  have hbt := nt_bounds T
  obtain ⟨ht0, ht1⟩ := hbt
  have HFS4 : Hid (∀ W, Calls Try.prog 76 #[.int .u32 (nt S)] W fun e w' => ∃ v', e = .returned v' ∧ OwnB w' (fun k => W.heap.size ≤ k) v' (le4 S) ∧ Ext None_ W w') := Lib.hid (fun W => rfour_any S W)
  have HAD1 : Hid (∀ (A : Option Addr) (c : Nat) (W : World), Row W A (B8 (hdp p)) → Calls Try.prog 71 #[.int .u32 0, .slice A (hdp p).length c] W fun e w' => e = .returned (.int .u32 (nt T)) ∧ W = w') := Lib.hid (fun A c W h => by
    rw [hT]
    exact radd_any 0#32 A c (hdp p) W h (le4_byt _) (by rw [hdp_len]; omega))
  have HAD2 : Hid (∀ (W : World), Row W A2 (B8 p) → Calls Try.prog 71 #[.int .u32 (nt T), .slice A2 p.length c2] W fun e w' => e = .returned (.int .u32 (nt S)) ∧ W = w') := Lib.hid (fun W h => by
    rw [hS]
    exact radd_any T A2 c2 p W h HB.out (by omega))
  obtain ⟨NS, hNS⟩ : ∃ NS, NS = nt S := ⟨_, rfl⟩
  rw [← hNS] at HFS4 HAD2 hb0 hb1
  obtain ⟨NT, hNT⟩ : ∃ NT, NT = nt T := ⟨_, rfl⟩
  rw [← hNT] at HAD1 HAD2 ht0 ht1
  clear hr1 hr2 hb hS hT hNS hNT
  go_enter Try.func48, Try.ntmps48
  go_wp2_with (first
    | (at_builtin; refine appW8 rfl (.tmp 8) (.tmp 9) rfl (.slice (some ⟨w.heap.size, 0, none⟩) 0 0) [] b A c rfl rfl (made0 w) (HR1.out.ext0 (x0 _ _)) (by simp; omega) ?_; intro v1 w1 ho1 hx1; obtain ⟨ha1, ha2⟩ := appNew (x0 w _) (made0 w) ho1 hx1; rw [List.nil_append] at ha1; have HA := Lib.hid ha1; have HAX := Lib.hid ha2; clear ho1 hx1 ha1 ha2)
    | (go_at_call 76; refine (HF4.out _).mono ?_; rintro e w2 ⟨v2, rfl, h2, hx2⟩; obtain ⟨Ah, ch, rfl, hrh⟩ := own_sl h2; have HRH := Lib.hid hrh; have HA2 := Lib.hid (OwnB.ext0 HA.out hx2); have HX2 := Lib.hid (HAX.out.trans0 hx2); clear h2 hx2 HF4 HA HAX hrh)
    | (go_at_call 71; refine (HAD1.out Ah ch w2 HRH.out).mono ?_; rintro e w3 ⟨rfl, rfl⟩; clear HAD1)
    | (go_at_call 71; refine (HAD2.out w2 (HR2.out.ext0 HX2.out)).mono ?_; rintro e w3 ⟨rfl, rfl⟩; clear HAD2)
    | (at_builtin; refine appW8 rfl (.tmp 23) (.tmp 24) rfl v1 b (hdp p) Ah ch rfl rfl HA2.out HRH.out (by rw [hdp_len]; omega) ?_; intro v3 w3 ho3 hx3; obtain ⟨ha1, ha2⟩ := appNew HX2.out HA2.out ho3 hx3; have HA3 := Lib.hid ha1; have HX3 := Lib.hid ha2; clear ho3 hx3 ha1 ha2 HA2 HX2 HRH)
    | (go_at_call 76; refine (HFS4.out _).mono ?_; rintro e w6 ⟨v6, rfl, h6, hx6⟩; obtain ⟨Ag, cg, rfl, hrg⟩ := own_sl h6; have HRG := Lib.hid hrg; have HA6 := Lib.hid (OwnB.ext0 HA3.out hx6); have HX6 := Lib.hid (HX3.out.trans0 hx6); clear h6 hx6 hrg HA3 HX3)
    | (at_builtin; refine appW8 rfl (.tmp 25) (.tmp 27) rfl v3 (b ++ hdp p) (le4 S) Ag cg rfl rfl HA6.out HRG.out (by rw [List.length_append, hdp_len, le4_len]; omega) ?_; intro v7 w7 ho7 hx7; obtain ⟨ha1, ha2⟩ := appNew HX6.out HA6.out ho7 hx7; have HA7 := Lib.hid ha1; have HX7 := Lib.hid ha2; clear ho7 hx7 ha1 ha2 HA6 HX6 HRG)
    | (at_builtin; refine appW8 rfl (.tmp 28) (.tmp 29) rfl v7 (b ++ hdp p ++ le4 S) p A2 c2 rfl rfl HA7.out (HR2.out.ext0 HX7.out) (by rw [List.length_append, List.length_append, hdp_len, le4_len]; omega) ?_; intro v8 w8 ho8 hx8; obtain ⟨ha1, ha2⟩ := appNew HX7.out HA7.out ho8 hx8; have HA8 := Lib.hid ha1; have HX8 := Lib.hid ha2; clear ho8 hx8 ha1 ha2 HA7 HX7))
  go_ret
  rw [HPE.out, HFS.out]
  exact ⟨_, rfl, by simpa using HA8.out, HX8.out⟩
theorem rframe_any (A : Option Addr) (c : Nat) (b : List Int) (A2 : Option Addr) (c2 : Nat) (p : List Int) (w : World) (hr1 : Row w A (B8 b)) (hr2 : Row w A2 (B8 p)) (hb : Byt p) (hlen : b.length ≤ 140737488351232) (hlenp : p.length ≤ 140737488351232) :
    Calls Try.prog 48 #[.slice A b.length c, .slice A2 p.length c2] w fun e w' => ∃ v', e = .returned v' ∧ OwnB w' (fun k => w.heap.size ≤ k) v' (putF b p) ∧ Ext None_ w w' := by
  by_cases hl : p.length ≤ 16384
  · exact rframe_short A c b A2 c2 p w hr1 hr2 hb hlen hl
  · exact rframe_long A c b A2 c2 p w hr1 hlen hlenp (by omega)
end Go.Proofs.Ytghkgfeamijefaa
