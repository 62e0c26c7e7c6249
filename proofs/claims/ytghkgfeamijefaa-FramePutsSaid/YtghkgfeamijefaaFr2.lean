/- Package frame, walked: Next. Written by gen_fr2.py. -/
import Derived.Test.YtghkgfeamijefaaFr
import Derived.Test.YtghkgfeamijefaaDisk10
import Derived.Great.BuildSlice
set_option linter.unusedVariables false
set_option linter.unusedSimpArgs false
namespace Go.Proofs.Ytghkgfeamijefaa
open Go.RowKit B
def nextF (l : List Int) (k : Int) : List Int × Int × Int :=
  if k < 0 ∨ (l.length : Int) < k then ([], 0, 1) else if k = l.length then ([], 0, 8) else
  if (l.drop k.toNat).length < 8 then ([], 0, 3) else if 16384 < hn (l.drop k.toNat) then ([], 0, 2) else
  if ((l.drop k.toNat).length : Int) - 8 < hn (l.drop k.toNat) then ([], 0, 3) else
  if nt (sumOf 0#32 ((l.drop k.toNat).take 4 ++ bodyOf (l.drop k.toNat))) ≠ hn ((l.drop k.toNat).drop 4) then ([], 0, 6) else (bodyOf (l.drop k.toNat), k + 8 + hn (l.drop k.toNat), 0)
def nextP (l : List Int) (k : Int) (w : World) (e : Ending) (w' : World) : Prop := ∃ v', e = .returned (.tuple #[v', .int .i64 (nextF l k).2.1, .int .i64 (nextF l k).2.2]) ∧ OwnB w' (fun k => w.heap.size ≤ k) v' (nextF l k).1 ∧ Ext None_ w w'
theorem nextP.bad {l : List Int} {k e0 : Int} {w w' : World} (h : nextF l k = ([], 0, e0)) (hx : Ext None_ w w') : nextP l k w (.returned (.tuple #[.slice none 0 0, .int .i64 0, .int .i64 e0])) w' := ⟨_, by rw [h], by rw [h]; exact OwnB.nil _ _, hx⟩
set_option maxRecDepth 100000 in
set_option maxHeartbeats 4000000 in
theorem next_arg (A : Option Addr) (c : Nat) (l : List Int) (k : Int) (w : World) (hlen : l.length ≤ 140737488355328) (hk : k < 0 ∨ (l.length : Int) < k) : Calls Try.prog 73 #[.slice A l.length c, .int .i64 k] w (nextP l k w) := by
  have HF : Hid (nextF l k = ([], 0, 1)) := Lib.hid (by unfold nextF; rw [if_pos hk])
  by_cases h0 : k < 0
  · clear hk
    go_enter Try.func73, Try.ntmps73
    go_wp2_with fail
    go_ret3
    exact nextP.bad HF.out (Ext.refl _ _)
  · have h1 : (l.length : Int) < k := by omega
    clear hk
    go_enter Try.func73, Try.ntmps73
    go_wp2_with fail
    go_ret3
    exact nextP.bad HF.out (Ext.refl _ _)
set_option maxRecDepth 100000 in
set_option maxHeartbeats 4000000 in
theorem next_end (A : Option Addr) (c : Nat) (l : List Int) (w : World) (hlen : l.length ≤ 140737488355328) : Calls Try.prog 73 #[.slice A l.length c, .int .i64 (l.length : Int)] w (nextP l l.length w) := by
  have HF : Hid (nextF l l.length = ([], 0, 8)) := Lib.hid (by unfold nextF; rw [if_neg (by omega), if_pos rfl])
  go_enter Try.func73, Try.ntmps73
  go_wp2_with fail
  go_ret3
  exact nextP.bad HF.out (Ext.refl _ _)
/-- What stands at a place of l. -/
structure At (l : List Int) (k : Nat) (A : Option Addr) (c : Nat) (R : List Int) (n : Int) (Ar : Option Addr) (w : World) : Prop where
  hR : R = l.drop k
  kl : k < l.length
  lc : l.length ≤ c
  cm : l.length ≤ 140737488355328
  nn : n = hn R
  n0 : 0 ≤ n ∧ n < 4294967296
  byt : Byt R
  len : R.length = l.length - k
  row : ∀ W, Ext None_ w W → Row W Ar (B8 R)
  cut : ∀ W : World, (Instr.slice 22 (.slice A l.length c) (some (.int .i64 (k : Int))) none none).run Try.prog W = .ok (.slice Ar R.length (c - k)) W
theorem At.mk' (A : Option Addr) (c : Nat) (l : List Int) (k : Nat) (w : World) (hrow : Row w A (B8 l)) (hb : Byt l) (hc : l.length ≤ c) (hlen : l.length ≤ 140737488355328) (hk : k < l.length) : ∃ R n Ar, At l k A c R n Ar w := by
  obtain ⟨A', hA', hcut⟩ := cut_l (P := Try.prog) 22 5 1 Try.underlying22 infoU8 A l.length c (k : Int) (by omega) (by omega) hc
  rw [show (k : Int).toNat = k by omega] at hA' hcut
  have hby : Byt (l.drop k) := fun x hx => hb x (List.mem_of_mem_drop hx)
  have b0 := rd_byte (l.drop k) hby 0
  have b1 := rd_byte (l.drop k) hby 1
  have b2 := rd_byte (l.drop k) hby 2
  have b3 := rd_byte (l.drop k) hby 3
  refine ⟨l.drop k, _, A', rfl, hk, hc, hlen, rfl, by unfold hn val4; omega, hby, by rw [List.length_drop], fun W hx => ?_, fun W => by rw [List.length_drop]; exact hcut W⟩
  have hr := (hrow.ext0 hx).drop k
  rw [hA', if_neg (by omega)]
  simpa [B8, List.map_drop] using hr
set_option maxRecDepth 100000 in
set_option maxHeartbeats 4000000 in
theorem next_short (A : Option Addr) (c : Nat) (l : List Int) (k : Nat) (R : List Int) (n : Int) (Ar : Option Addr) (w : World) (h : At l k A c R n Ar w) (h1 : R.length < 8) : Calls Try.prog 73 #[.slice A l.length c, .int .i64 (k : Int)] w (nextP l k w) := by
  have HF : Hid (nextF l (k : Int) = ([], 0, 3)) := Lib.hid (by have := h.kl; unfold nextF; rw [if_neg (by omega), if_neg (by omega)]; simp only [Int.toNat_natCast]; rw [← h.hR, ← h.nn]; rw [if_pos h1])
  have hkl := h.kl
  have hlc := h.lc
  have hcm := h.cm
  have hn0 := h.n0
  have hlen := h.len
  have hRl : R.length ≤ 140737488355328 := by omega
  have hRc : R.length ≤ c - k := by omega
  have HCUT := h.cut
  have HH := Lib.hid h
  have HNU : Hid (4 ≤ R.length → ∀ W, Ext None_ w W → Calls Try.prog 88 #[.slice Ar R.length (c - k)] W fun e w' => e = .returned (.int .u32 n) ∧ Ext None_ W w') := Lib.hid (fun h4 W hx => by rw [h.nn]; exact number_any Ar (c - k) R W (h.row W hx) h.byt h4)
  clear h hlen
  go_enter Try.func73, Try.ntmps73
  go_wp2_with fail
  go_ret3
  exact nextP.bad HF.out (Ext.refl _ _)
set_option maxRecDepth 100000 in
set_option maxHeartbeats 4000000 in
theorem next_long (A : Option Addr) (c : Nat) (l : List Int) (k : Nat) (R : List Int) (n : Int) (Ar : Option Addr) (w : World) (h : At l k A c R n Ar w) (h1 : ¬ R.length < 8) (h2 : 16384 < n) : Calls Try.prog 73 #[.slice A l.length c, .int .i64 (k : Int)] w (nextP l k w) := by
  have HF : Hid (nextF l (k : Int) = ([], 0, 2)) := Lib.hid (by have := h.kl; unfold nextF; rw [if_neg (by omega), if_neg (by omega)]; simp only [Int.toNat_natCast]; rw [← h.hR, ← h.nn]; rw [if_neg h1, if_pos h2])
  have hkl := h.kl
  have hlc := h.lc
  have hcm := h.cm
  have hn0 := h.n0
  have hlen := h.len
  have hRl : R.length ≤ 140737488355328 := by omega
  have hRc : R.length ≤ c - k := by omega
  have HCUT := h.cut
  have HH := Lib.hid h
  have HNU : Hid (4 ≤ R.length → ∀ W, Ext None_ w W → Calls Try.prog 88 #[.slice Ar R.length (c - k)] W fun e w' => e = .returned (.int .u32 n) ∧ Ext None_ W w') := Lib.hid (fun h4 W hx => by rw [h.nn]; exact number_any Ar (c - k) R W (h.row W hx) h.byt h4)
  clear h hlen
  go_enter Try.func73, Try.ntmps73
  go_wp2_with (go_at_call 88; refine (HNU.out (by omega) _ (Ext.refl _ _)).mono ?_; rintro e w1 ⟨rfl, hx1⟩; have HX1 := Lib.hid hx1; clear hx1 HNU)
  go_ret3
  exact nextP.bad HF.out HX1.out
set_option maxRecDepth 100000 in
set_option maxHeartbeats 4000000 in
theorem next_torn (A : Option Addr) (c : Nat) (l : List Int) (k : Nat) (R : List Int) (n : Int) (Ar : Option Addr) (w : World) (h : At l k A c R n Ar w) (h1 : ¬ R.length < 8) (h2 : ¬ 16384 < n) (h3 : (R.length : Int) - 8 < n) : Calls Try.prog 73 #[.slice A l.length c, .int .i64 (k : Int)] w (nextP l k w) := by
  have HF : Hid (nextF l (k : Int) = ([], 0, 3)) := Lib.hid (by have := h.kl; unfold nextF; rw [if_neg (by omega), if_neg (by omega)]; simp only [Int.toNat_natCast]; rw [← h.hR, ← h.nn]; rw [if_neg h1, if_neg h2, if_pos h3])
  have hkl := h.kl
  have hlc := h.lc
  have hcm := h.cm
  have hn0 := h.n0
  have hlen := h.len
  have hRl : R.length ≤ 140737488355328 := by omega
  have hRc : R.length ≤ c - k := by omega
  have HCUT := h.cut
  have HH := Lib.hid h
  have HNU : Hid (4 ≤ R.length → ∀ W, Ext None_ w W → Calls Try.prog 88 #[.slice Ar R.length (c - k)] W fun e w' => e = .returned (.int .u32 n) ∧ Ext None_ W w') := Lib.hid (fun h4 W hx => by rw [h.nn]; exact number_any Ar (c - k) R W (h.row W hx) h.byt h4)
  clear h hlen
  go_enter Try.func73, Try.ntmps73
  go_wp2_with (go_at_call 88; refine (HNU.out (by omega) _ (Ext.refl _ _)).mono ?_; rintro e w1 ⟨rfl, hx1⟩; have HX1 := Lib.hid hx1; clear hx1 HNU)
  go_ret3
  exact nextP.bad HF.out HX1.out
def sPair (a b : Value) : SG := ⟨fun u w => ∃ g, u = .slice (some ⟨g, 0, none⟩) 2 2 ∧ w.cell? ⟨g, 0, none⟩ = some a ∧ w.cell? ⟨g, 1, none⟩ = some b, fun _ _ _ ⟨g, h1, h2, h3⟩ hx => ⟨g, h1, hx.cell h2 (fun a => a), hx.cell h3 (fun a => a)⟩⟩
theorem pair_slice (A B : Option Addr) (n m c d : Nat) (W : World) : (Instr.buildSlice 59 2 #[(0, .slice A n c), (1, .slice B m d)]).run Try.prog W = .ok (.slice (some ⟨W.heap.size, 0, none⟩) 2 2) (W.alloc (.cells #[.slice A n c, .slice B m d] 22)) := by
  obtain ⟨ie, hi, hz0, hz1, hz2⟩ := info_parts (show (Try.prog.info? 22).map (fun i => (i.zero, i.size, i.bytes)) = some (some (.slice none 0 0), 1, 24) by kernel_rfl)
  exact run_buildSlice W 59 22 2 _ _ ie _ Try.underlying59 hi hz0 (by rw [hz1]; decide) (by rw [hz1]; decide) (by rw [hz1]; kernel_rfl)
theorem pair_of {w : World} {b n m c d : Nat} {A B : Option Addr} (x y : List Int) (hx : x.length = n) (hy : y.length = m) (h0 : w.cell? ⟨b, 0, none⟩ = some (.slice A n c)) (h1 : w.cell? ⟨b, 1, none⟩ = some (.slice B m d)) (r0 : Row w A (B8 x)) (r1 : Row w B (B8 y)) (b0 : Byt x) (b1 : Byt y) (hm : n + m ≤ 140737488355328) : Calls Try.prog 70 #[.slice (some ⟨b, 0, none⟩) 2 2] w fun e w' => e = .returned (.int .u32 (nt (sumOf 0#32 (x ++ y)))) ∧ w = w' := by
  subst hx hy
  have h := of_any (some ⟨b, 0, none⟩) 2 [x, y] w (parts_two h0 h1 r0 r1 b0 b1 (by omega) (by omega)) (by simp)
  rwa [show [x, y].flatten = x ++ y by simp] at h
theorem num_of {w : World} {A : Option Addr} {n c : Nat} (x : List Int) (hx : x.length = n) (r : Row w A (B8 x)) (b : Byt x) (h4 : 4 ≤ n) : Calls Try.prog 88 #[.slice A n c] w fun e w' => e = .returned (.int .u32 (hn x)) ∧ Ext None_ w w' := by
  subst hx
  exact number_any A c x w r b h4
set_option maxRecDepth 100000 in
set_option maxHeartbeats 8000000 in
theorem next_sum (A : Option Addr) (c : Nat) (l : List Int) (k : Nat) (R : List Int) (n : Int) (Ar : Option Addr) (w : World) (h : At l k A c R n Ar w) (h1 : ¬ R.length < 8) (h2 : ¬ 16384 < n) (h3 : ¬ (R.length : Int) - 8 < n) (h4 : nt (sumOf 0#32 (R.take 4 ++ bodyOf R)) ≠ hn (R.drop 4)) : Calls Try.prog 73 #[.slice A l.length c, .int .i64 (k : Int)] w (nextP l k w) := by
  have HF : Hid (nextF l (k : Int) = ([], 0, 6)) := Lib.hid (by have := h.kl; unfold nextF; rw [if_neg (by omega), if_neg (by omega)]; simp only [Int.toNat_natCast]; rw [← h.hR, ← h.nn, if_neg h1, if_neg h2, if_neg h3]; rw [if_pos h4])
  have hkl := h.kl
  have hlc := h.lc
  have hcm := h.cm
  have hn0 := h.n0
  have hlen := h.len
  have hRl : R.length ≤ 140737488355328 := by omega
  have hRc : R.length ≤ c - k := by omega
  have HCUT := h.cut
  have HH := Lib.hid h
  have HNU : Hid (4 ≤ R.length → ∀ W, Ext None_ w W → Calls Try.prog 88 #[.slice Ar R.length (c - k)] W fun e w' => e = .returned (.int .u32 n) ∧ Ext None_ W w') := Lib.hid (fun h4 W hx => by rw [h.nn]; exact number_any Ar (c - k) R W (h.row W hx) h.byt h4)
  obtain ⟨m, hm⟩ : ∃ m : Nat, n = m := ⟨n.toNat, by omega⟩
  subst hm
  obtain ⟨A8, hA8, hc8⟩ := cut_lh (P := Try.prog) 22 5 1 Try.underlying22 infoU8 Ar R.length (c - k) 8 (8 + (m : Int)) (by omega) (by omega) (by omega)
  rw [show (8 : Int).toNat = 8 by decide] at hA8 hc8
  rw [show (8 + (m : Int)).toNat = 8 + m by omega] at hc8
  obtain ⟨A4, hA4, hc4⟩ := cut_h (P := Try.prog) 22 5 1 Try.underlying22 infoU8 Ar R.length (c - k) 4 (by omega) (by omega)
  obtain ⟨A5, hA5, hc5⟩ := cut_l (P := Try.prog) 22 5 1 Try.underlying22 infoU8 Ar R.length (c - k) 4 (by omega) (by omega) (by omega)
  rw [show (4 : Int).toNat = 4 by decide] at hc4 hA5 hc5
  obtain ⟨p, hp⟩ : ∃ p, p = bodyOf R := ⟨_, rfl⟩
  have hpl : p.length = m := by rw [hp]; unfold bodyOf; rw [← h.nn, List.length_drop, List.length_take]; omega
  have HP8 : Hid (∀ W, Ext None_ w W → Row W A8 (B8 p)) := Lib.hid (fun W hx => by
    have := cut_row (lo := 8) (hi := 8 + m) (size := 1) (h.row W hx) hA8 (by rw [B8_length]; omega)
    rw [hp]; unfold bodyOf; rw [← h.nn]
    simpa [B8, List.map_take, List.map_drop] using this)
  have HP4 : Hid (∀ W, Ext None_ w W → Row W A4 (B8 (R.take 4))) := Lib.hid (fun W hx => by
    have := cut_row (lo := 0) (hi := 4) (size := 1) (h.row W hx) hA4 (by rw [B8_length]; omega)
    simpa [B8, List.map_take] using this)
  have HP5 : Hid (∀ W, Ext None_ w W → Row W A5 (B8 (R.drop 4))) := Lib.hid (fun W hx => by
    have := (h.row W hx).drop 4
    rw [hA5, if_neg (by omega)]
    simpa [B8, List.map_drop] using this)
  have HB8 : Hid (Byt p) := Lib.hid (by rw [hp]; exact fun x hx => h.byt x (List.mem_of_mem_take (List.mem_of_mem_drop hx)))
  have HB4 : Hid (Byt (R.take 4)) := Lib.hid (fun x hx => h.byt x (List.mem_of_mem_take hx))
  have HB5 : Hid (Byt (R.drop 4)) := Lib.hid (fun x hx => h.byt x (List.mem_of_mem_drop hx))
  have HT4 : Hid ((R.take 4).length = 4) := Lib.hid (by rw [List.length_take]; omega)
  have HT5 : Hid ((R.drop 4).length = R.length - 4) := Lib.hid (by rw [List.length_drop])
  obtain ⟨N1, hN1⟩ : ∃ N1, N1 = nt (sumOf 0#32 (R.take 4 ++ p)) := ⟨_, rfl⟩
  obtain ⟨N2, hN2⟩ : ∃ N2, N2 = hn (R.drop 4) := ⟨_, rfl⟩
  have HN1 := Lib.hid hN1
  have HN2 := Lib.hid hN2
  have hne : (N1 != N2) = true := by rw [hN1, hN2, hp]; simp [h4]
  have HPE := Lib.hid hp
  have HC4 := Lib.hid hc4
  have HC5 := Lib.hid hc5
  clear hlen
  clear h hA8 hA4 hA5 hc4 hc5 hN1 hN2 hp
  go_enter Try.func73, Try.ntmps73
  go_wp2_with (go_at_call 88; refine (HNU.out (by omega) _ (Ext.refl _ _)).mono ?_; rintro e w1 ⟨rfl, hx1⟩; have HX1 := Lib.hid hx1; clear hx1 HNU)
  refine wp_region_mem [sv _, sv (.slice A4 4 (c - k)), sv _, sPair (.slice A4 4 (c - k)) (.slice A8 m (c - k - 8)), sv (.int .u32 N1), sv _, sv (.slice A5 (R.length - 4) (c - k - 4)), sv (.int .u32 N2), sv (.bool true)] (by kernel_rfl) rfl rfl rfl rfl ⟨
    (by
      intro Lq aq wq hd hj Kq hK
      rw [if_pos (wanted_none rfl)]
      have f7 := hj.base 7 rfl rfl
      exact opMove hK rfl (ev f7) rfl),
    (by
      intro Lq aq wq hd hj Kq hK
      rw [if_pos (wanted_none rfl)]
      have f43 := hj.val 0 43 rfl rfl (by simp) rfl (hd ⟨0, .data⟩ (by simp) rfl)
      exact opSliceOp hK rfl (ev f43) rfl rfl rfl Try.underlying22 HC4.out rfl),
    (by
      intro Lq aq wq hd hj Kq hK
      rw [if_pos (wanted_none rfl)]
      have f9 := hj.base 9 rfl rfl
      exact opMove hK rfl (ev f9) rfl),
    (by
      intro Lq aq wq hd hj Kq hK
      rw [if_pos (wanted_none rfl)]
      have f44 := hj.val 1 44 rfl rfl (by simp) rfl (hd ⟨1, .data⟩ (by simp) rfl)
      have f45 := hj.val 2 45 rfl rfl (by simp) rfl (hd ⟨2, .data⟩ (by simp) rfl)
      exact opRun hK (v := .slice (some ⟨wq.heap.size, 0, none⟩) 2 2) (w' := wq.alloc (.cells #[.slice A4 4 (c - k), .slice A8 m (c - k - 8)] 22)) (by unfold execOp; simp [ev f44, ev f45, pair_slice]) ⟨_, rfl, (Blk.new wq _ _).cell 0, (Blk.new wq _ _).cell 1⟩ (x0 _ _)),
    (by
      intro Lq aq wq hd hj Kq hK
      rw [if_pos (wanted_none rfl)]
      obtain ⟨u46, f46, g46⟩ := hj.at_ 3 46 rfl rfl (by simp) (hd ⟨3, .data⟩ (by simp) rfl)
      obtain ⟨b, rfl, q0, q1⟩ := g46
      exact opCall hK Try.func70 (by kernel_rfl) rfl (args := #[.slice (some ⟨b, 0, none⟩) 2 2]) (by simp [ev f46]) ((pair_of (R.take 4) p HT4.out hpl q0 q1 (HP4.out _ (HX1.out.trans0 ((Ext.refl None_ w1).drew.trans0 hj.ext))) (HP8.out _ (HX1.out.trans0 ((Ext.refl None_ w1).drew.trans0 hj.ext))) HB4.out HB8.out (by omega)).mono fun e w' ⟨h1, h2⟩ => ⟨_, h1, congrArg (Value.int .u32) HN1.out.symm, by subst h2; exact Ext.refl _ _⟩)),
    (by
      intro Lq aq wq hd hj Kq hK
      rw [if_pos (wanted_none rfl)]
      have f7 := hj.base 7 rfl rfl
      exact opMove hK rfl (ev f7) rfl),
    (by
      intro Lq aq wq hd hj Kq hK
      rw [if_pos (wanted_none rfl)]
      have f48 := hj.val 5 48 rfl rfl (by simp) rfl (hd ⟨5, .data⟩ (by simp) rfl)
      exact opSliceOp hK rfl (ev f48) rfl rfl rfl Try.underlying22 HC5.out rfl),
    (by
      intro Lq aq wq hd hj Kq hK
      rw [if_pos (wanted_none rfl)]
      have f49 := hj.val 6 49 rfl rfl (by simp) rfl (hd ⟨6, .data⟩ (by simp) rfl)
      exact opCall hK Try.func88 (by kernel_rfl) rfl (args := #[.slice A5 (R.length - 4) (c - k - 4)]) (by simp [ev f49]) ((num_of (R.drop 4) HT5.out (HP5.out _ (HX1.out.trans0 ((Ext.refl None_ w1).drew.trans0 hj.ext))) HB5.out (by omega)).mono fun e w' ⟨h1, h2⟩ => ⟨_, h1, congrArg (Value.int .u32) HN2.out.symm, h2⟩)),
    (by
      intro Lq aq wq hd hj Kq hK
      rw [if_pos (wanted_none rfl)]
      have f47 := hj.val 4 47 rfl rfl (by simp) rfl (hd ⟨4, .data⟩ (by simp) rfl)
      have f50 := hj.val 7 50 rfl rfl (by simp) rfl (hd ⟨7, .data⟩ (by simp) rfl)
      exact opBin hK rfl (ev f47) (ev f50) (guardInt _ _ _ _ _ _ _ _ _) (binNeInt _ _ _ _ _) (congrArg Value.bool (by first | rfl | assumption | (simp; omega) | (simp [*]; done)))),
    trivial⟩ ?fin
  case fin =>
    intro vs w9 hx hg
    have v8 : vs 8 = _ := hg 8 (by decide)
    have X := Lib.hid (HX1.out.trans0 ((Ext.refl None_ w1).drew.trans0 hx))
    clear hx hg
    simp only [putAll, v8, Nat.reduceAdd, Nat.zero_add]
    simp only [Act.put, List.setIfInBounds_toArray, List.set_cons_succ, List.set_cons_zero]
    go_wp2_with fail
    go_ret3
    exact nextP.bad HF.out X.out
set_option maxRecDepth 100000 in
set_option maxHeartbeats 8000000 in
theorem next_ok (A : Option Addr) (c : Nat) (l : List Int) (k : Nat) (R : List Int) (n : Int) (Ar : Option Addr) (w : World) (h : At l k A c R n Ar w) (h1 : ¬ R.length < 8) (h2 : ¬ 16384 < n) (h3 : ¬ (R.length : Int) - 8 < n) (h4 : nt (sumOf 0#32 (R.take 4 ++ bodyOf R)) = hn (R.drop 4)) : Calls Try.prog 73 #[.slice A l.length c, .int .i64 (k : Int)] w (nextP l k w) := by
  have HF : Hid (nextF l (k : Int) = (bodyOf R, (k : Int) + 8 + n, 0)) := Lib.hid (by have := h.kl; unfold nextF; rw [if_neg (by omega), if_neg (by omega)]; simp only [Int.toNat_natCast]; rw [← h.hR, ← h.nn, if_neg h1, if_neg h2, if_neg h3]; rw [if_neg (fun e => e h4)])
  have hkl := h.kl
  have hlc := h.lc
  have hcm := h.cm
  have hn0 := h.n0
  have hlen := h.len
  have hRl : R.length ≤ 140737488355328 := by omega
  have hRc : R.length ≤ c - k := by omega
  have HCUT := h.cut
  have HH := Lib.hid h
  have HNU : Hid (4 ≤ R.length → ∀ W, Ext None_ w W → Calls Try.prog 88 #[.slice Ar R.length (c - k)] W fun e w' => e = .returned (.int .u32 n) ∧ Ext None_ W w') := Lib.hid (fun h4 W hx => by rw [h.nn]; exact number_any Ar (c - k) R W (h.row W hx) h.byt h4)
  obtain ⟨m, hm⟩ : ∃ m : Nat, n = m := ⟨n.toNat, by omega⟩
  subst hm
  obtain ⟨A8, hA8, hc8⟩ := cut_lh (P := Try.prog) 22 5 1 Try.underlying22 infoU8 Ar R.length (c - k) 8 (8 + (m : Int)) (by omega) (by omega) (by omega)
  rw [show (8 : Int).toNat = 8 by decide] at hA8 hc8
  rw [show (8 + (m : Int)).toNat = 8 + m by omega] at hc8
  obtain ⟨A4, hA4, hc4⟩ := cut_h (P := Try.prog) 22 5 1 Try.underlying22 infoU8 Ar R.length (c - k) 4 (by omega) (by omega)
  obtain ⟨A5, hA5, hc5⟩ := cut_l (P := Try.prog) 22 5 1 Try.underlying22 infoU8 Ar R.length (c - k) 4 (by omega) (by omega) (by omega)
  rw [show (4 : Int).toNat = 4 by decide] at hc4 hA5 hc5
  obtain ⟨p, hp⟩ : ∃ p, p = bodyOf R := ⟨_, rfl⟩
  have hpl : p.length = m := by rw [hp]; unfold bodyOf; rw [← h.nn, List.length_drop, List.length_take]; omega
  have HP8 : Hid (∀ W, Ext None_ w W → Row W A8 (B8 p)) := Lib.hid (fun W hx => by
    have := cut_row (lo := 8) (hi := 8 + m) (size := 1) (h.row W hx) hA8 (by rw [B8_length]; omega)
    rw [hp]; unfold bodyOf; rw [← h.nn]
    simpa [B8, List.map_take, List.map_drop] using this)
  have HP4 : Hid (∀ W, Ext None_ w W → Row W A4 (B8 (R.take 4))) := Lib.hid (fun W hx => by
    have := cut_row (lo := 0) (hi := 4) (size := 1) (h.row W hx) hA4 (by rw [B8_length]; omega)
    simpa [B8, List.map_take] using this)
  have HP5 : Hid (∀ W, Ext None_ w W → Row W A5 (B8 (R.drop 4))) := Lib.hid (fun W hx => by
    have := (h.row W hx).drop 4
    rw [hA5, if_neg (by omega)]
    simpa [B8, List.map_drop] using this)
  have HB8 : Hid (Byt p) := Lib.hid (by rw [hp]; exact fun x hx => h.byt x (List.mem_of_mem_take (List.mem_of_mem_drop hx)))
  have HB4 : Hid (Byt (R.take 4)) := Lib.hid (fun x hx => h.byt x (List.mem_of_mem_take hx))
  have HB5 : Hid (Byt (R.drop 4)) := Lib.hid (fun x hx => h.byt x (List.mem_of_mem_drop hx))
  have HT4 : Hid ((R.take 4).length = 4) := Lib.hid (by rw [List.length_take]; omega)
  have HT5 : Hid ((R.drop 4).length = R.length - 4) := Lib.hid (by rw [List.length_drop])
  obtain ⟨N1, hN1⟩ : ∃ N1, N1 = nt (sumOf 0#32 (R.take 4 ++ p)) := ⟨_, rfl⟩
  obtain ⟨N2, hN2⟩ : ∃ N2, N2 = hn (R.drop 4) := ⟨_, rfl⟩
  have HN1 := Lib.hid hN1
  have HN2 := Lib.hid hN2
  have hne : (N1 != N2) = false := by rw [hN1, hN2, hp]; simp [h4]
  have HPE := Lib.hid hp
  have HC4 := Lib.hid hc4
  have HC5 := Lib.hid hc5
  clear hlen
  clear h hA8 hA4 hA5 hc4 hc5 hN1 hN2 hp
  go_enter Try.func73, Try.ntmps73
  go_wp2_with (go_at_call 88; refine (HNU.out (by omega) _ (Ext.refl _ _)).mono ?_; rintro e w1 ⟨rfl, hx1⟩; have HX1 := Lib.hid hx1; clear hx1 HNU)
  refine wp_region_mem [sv _, sv (.slice A4 4 (c - k)), sv _, sPair (.slice A4 4 (c - k)) (.slice A8 m (c - k - 8)), sv (.int .u32 N1), sv _, sv (.slice A5 (R.length - 4) (c - k - 4)), sv (.int .u32 N2), sv (.bool false)] (by kernel_rfl) rfl rfl rfl rfl ⟨
    (by
      intro Lq aq wq hd hj Kq hK
      rw [if_pos (wanted_none rfl)]
      have f7 := hj.base 7 rfl rfl
      exact opMove hK rfl (ev f7) rfl),
    (by
      intro Lq aq wq hd hj Kq hK
      rw [if_pos (wanted_none rfl)]
      have f43 := hj.val 0 43 rfl rfl (by simp) rfl (hd ⟨0, .data⟩ (by simp) rfl)
      exact opSliceOp hK rfl (ev f43) rfl rfl rfl Try.underlying22 HC4.out rfl),
    (by
      intro Lq aq wq hd hj Kq hK
      rw [if_pos (wanted_none rfl)]
      have f9 := hj.base 9 rfl rfl
      exact opMove hK rfl (ev f9) rfl),
    (by
      intro Lq aq wq hd hj Kq hK
      rw [if_pos (wanted_none rfl)]
      have f44 := hj.val 1 44 rfl rfl (by simp) rfl (hd ⟨1, .data⟩ (by simp) rfl)
      have f45 := hj.val 2 45 rfl rfl (by simp) rfl (hd ⟨2, .data⟩ (by simp) rfl)
      exact opRun hK (v := .slice (some ⟨wq.heap.size, 0, none⟩) 2 2) (w' := wq.alloc (.cells #[.slice A4 4 (c - k), .slice A8 m (c - k - 8)] 22)) (by unfold execOp; simp [ev f44, ev f45, pair_slice]) ⟨_, rfl, (Blk.new wq _ _).cell 0, (Blk.new wq _ _).cell 1⟩ (x0 _ _)),
    (by
      intro Lq aq wq hd hj Kq hK
      rw [if_pos (wanted_none rfl)]
      obtain ⟨u46, f46, g46⟩ := hj.at_ 3 46 rfl rfl (by simp) (hd ⟨3, .data⟩ (by simp) rfl)
      obtain ⟨b, rfl, q0, q1⟩ := g46
      exact opCall hK Try.func70 (by kernel_rfl) rfl (args := #[.slice (some ⟨b, 0, none⟩) 2 2]) (by simp [ev f46]) ((pair_of (R.take 4) p HT4.out hpl q0 q1 (HP4.out _ (HX1.out.trans0 ((Ext.refl None_ w1).drew.trans0 hj.ext))) (HP8.out _ (HX1.out.trans0 ((Ext.refl None_ w1).drew.trans0 hj.ext))) HB4.out HB8.out (by omega)).mono fun e w' ⟨h1, h2⟩ => ⟨_, h1, congrArg (Value.int .u32) HN1.out.symm, by subst h2; exact Ext.refl _ _⟩)),
    (by
      intro Lq aq wq hd hj Kq hK
      rw [if_pos (wanted_none rfl)]
      have f7 := hj.base 7 rfl rfl
      exact opMove hK rfl (ev f7) rfl),
    (by
      intro Lq aq wq hd hj Kq hK
      rw [if_pos (wanted_none rfl)]
      have f48 := hj.val 5 48 rfl rfl (by simp) rfl (hd ⟨5, .data⟩ (by simp) rfl)
      exact opSliceOp hK rfl (ev f48) rfl rfl rfl Try.underlying22 HC5.out rfl),
    (by
      intro Lq aq wq hd hj Kq hK
      rw [if_pos (wanted_none rfl)]
      have f49 := hj.val 6 49 rfl rfl (by simp) rfl (hd ⟨6, .data⟩ (by simp) rfl)
      exact opCall hK Try.func88 (by kernel_rfl) rfl (args := #[.slice A5 (R.length - 4) (c - k - 4)]) (by simp [ev f49]) ((num_of (R.drop 4) HT5.out (HP5.out _ (HX1.out.trans0 ((Ext.refl None_ w1).drew.trans0 hj.ext))) HB5.out (by omega)).mono fun e w' ⟨h1, h2⟩ => ⟨_, h1, congrArg (Value.int .u32) HN2.out.symm, h2⟩)),
    (by
      intro Lq aq wq hd hj Kq hK
      rw [if_pos (wanted_none rfl)]
      have f47 := hj.val 4 47 rfl rfl (by simp) rfl (hd ⟨4, .data⟩ (by simp) rfl)
      have f50 := hj.val 7 50 rfl rfl (by simp) rfl (hd ⟨7, .data⟩ (by simp) rfl)
      exact opBin hK rfl (ev f47) (ev f50) (guardInt _ _ _ _ _ _ _ _ _) (binNeInt _ _ _ _ _) (congrArg Value.bool (by first | rfl | assumption | (simp; omega) | (simp [*]; done)))),
    trivial⟩ ?fin
  case fin =>
    intro vs w9 hx hg
    have v8 : vs 8 = _ := hg 8 (by decide)
    have X := Lib.hid (HX1.out.trans0 ((Ext.refl None_ w1).drew.trans0 hx))
    clear hx hg
    simp only [putAll, v8, Nat.reduceAdd, Nat.zero_add]
    simp only [Act.put, List.setIfInBounds_toArray, List.set_cons_succ, List.set_cons_zero]
    go_wp2_with (at_builtin; refine app8 rfl (.const (.slice none 0 0)) (.tmp 52) rfl (.slice none 0 0) [] p A8 (c - k - 8) rfl (by rw [hpl]; rfl) (OwnB.nil _ (fun _ => False)) (HP8.out _ X.out) (by simp; omega) ?_; intro v1 w2 ho1 hx1; have HO1 := Lib.hid ho1; have HX2 := Lib.hid hx1; clear ho1 hx1)
    go_ret3
    unfold nextP
    rw [HF.out, ← HPE.out]
    exact ⟨_, rfl, own_late HO1.out rfl X.out.size, X.out.trans0 (ext_of_nil HX2.out rfl)⟩
theorem next_any (A : Option Addr) (c : Nat) (l : List Int) (k : Int) (w : World) (hrow : Row w A (B8 l)) (hb : Byt l) (hc : l.length ≤ c) (hlen : l.length ≤ 140737488355328) : Calls Try.prog 73 #[.slice A l.length c, .int .i64 k] w (nextP l k w) := by
  by_cases h0 : k < 0 ∨ (l.length : Int) < k
  · exact next_arg A c l k w (by omega) h0
  · obtain ⟨j, rfl⟩ : ∃ j : Nat, k = j := ⟨k.toNat, by omega⟩
    by_cases h1 : j = l.length
    · subst h1
      exact next_end A c l w (by omega)
    · obtain ⟨R, n, Ar, h⟩ := At.mk' A c l j w hrow hb hc hlen (by omega)
      by_cases h2 : R.length < 8
      · exact next_short A c l j R n Ar w h h2
      · by_cases h3 : 16384 < n
        · exact next_long A c l j R n Ar w h h2 h3
        · by_cases h4 : (R.length : Int) - 8 < n
          · exact next_torn A c l j R n Ar w h h2 h3 h4
          · by_cases h5 : nt (sumOf 0#32 (R.take 4 ++ bodyOf R)) = hn (R.drop 4)
            · exact next_ok A c l j R n Ar w h h2 h3 h4 h5
            · exact next_sum A c l j R n Ar w h h2 h3 h4 h5
end Go.Proofs.Ytghkgfeamijefaa
