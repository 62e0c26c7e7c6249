/- Both disks: a call on both. Written by gen_rd10.py. -/
import Derived.Test.YtakcdmmniaipeaaRd9
import Derived.Deep.RegionHeld3
import Derived.Deep.CutBlock
set_option linter.unusedVariables false
set_option linter.unusedSimpArgs false
namespace Go.Proofs.Ytakcdmmniaipeaa
open Go.RowKit B
/-- What a call leaves. -/
def CallP (w0 : World) (D : DS) (e : Ending) (w' : World) : Prop := ∃ g' gr' D', e = .returned (.tuple #[.pointer (some ⟨g', 0, none⟩), .pointer (some ⟨gr', 0, none⟩), .bool true]) ∧ Two w0 [] g' D' gr' D' w' ∧ D'.wait.length ≤ D.wait.length + 1
theorem cut_wait1 (D : DS) (f z : Int) : (cutD D f z).2.wait.length ≤ D.wait.length + 1 := by
  have hw := count_wait D
  unfold cutD
  split
  · split
    · simp [hw]
    · rw [hw]; omega
  · rw [hw]; omega
theorem sync_wait1 (D : DS) : (syncD D).2.wait.length ≤ D.wait.length + 1 := by
  have hw := count_wait D
  unfold syncD
  split
  · simp
  · rw [hw]; omega
theorem B.Blk.ext0 {w w1 : World} {g : Nat} {cs : Array Value} {t : TypeId} (h : Blk w g cs t) (hx : Ext None_ w w1) : Blk w1 g cs t := h.ext hx (fun a => a)
theorem nil8 : ([] : List Int).length ≤ 0 := by simp
set_option maxRecDepth 100000 in
set_option maxHeartbeats 16000000 in
theorem call_none (w0 W : World) (g gr : Nat) (D : DS) (h : Two w0 [] g D gr D W) (kind file at_ n : Int) (data : List Int) (B : Option Addr) (cb : Nat) (hq : AskOk w0 ⟨kind, file, at_, n, data⟩ B cb) (hwl : D.wait.length ≤ 900) (k1 : kind ≠ 1) (k2 : kind ≠ 2) (k3 : kind ≠ 3) (k4 : kind ≠ 4) (k5 : kind ≠ 5) (k6 : kind ≠ 6) :
    Calls Try.prog 32 #[.pointer (some ⟨g, 0, none⟩), .pointer (some ⟨gr, 0, none⟩), .agg #[.int .i64 kind, .int .i64 file, .int .i64 at_, .int .i64 n, .slice B data.length cb]] W (CallP w0 D) := by
  have H1 : Hid (Two w0 [W.heap.size] g D gr D (W.alloc (.cells #[.int .i64 kind, .int .i64 file, .int .i64 at_, .int .i64 n, .slice B data.length cb] 48))) := Lib.hid (h.add (x0 W _) (Nat.le_refl _) (by simp))
  have hw0 := h.x.size
  have HPA : Hid (Blk (W.alloc (.cells #[.int .i64 kind, .int .i64 file, .int .i64 at_, .int .i64 n, .slice B data.length cb] 48)) W.heap.size #[.int .i64 kind, .int .i64 file, .int .i64 at_, .int .i64 n, .slice B data.length cb] 48) := Lib.hid (Blk.new W _ _)
  have HQ := Lib.hid hq
  have hI1 := hq.i1
  have hI2 := hq.i2
  have hI3 := hq.i3
  have hdl := hq.len
  simp only at hI1 hI2 hI3 hdl
  obtain ⟨Wp, hWp⟩ : ∃ x, x = W.heap.size := ⟨_, rfl⟩
  have HWP := Lib.hid hWp
  clear h hq hWp Wp HWP
  have b1 : (kind == 1) = false := by simp [k1]
  have b2 : (kind == 2) = false := by simp [k2]
  have b3 : (kind == 3) = false := by simp [k3]
  have b4 : (kind == 4) = false := by simp [k4]
  have b5 : (kind == 5) = false := by simp [k5]
  have b6 : (kind == 6) = false := by simp [k6]
  go_enter Try.func32, Try.ntmps32
  go_wp2_with fail
  go_ret3
  exact ⟨g, gr, D, rfl, H1.out.less (fun k hk => by simp at hk), by omega⟩
set_option maxRecDepth 100000 in
set_option maxHeartbeats 16000000 in
theorem call_sync (w0 W : World) (g gr : Nat) (D : DS) (h : Two w0 [] g D gr D W) (file at_ n : Int) (data : List Int) (B : Option Addr) (cb : Nat) (hq : AskOk w0 ⟨3, file, at_, n, data⟩ B cb) (hwl : D.wait.length ≤ 900) :
    Calls Try.prog 32 #[.pointer (some ⟨g, 0, none⟩), .pointer (some ⟨gr, 0, none⟩), .agg #[.int .i64 3, .int .i64 file, .int .i64 at_, .int .i64 n, .slice B data.length cb]] W (CallP w0 D) := by
  have H1 : Hid (Two w0 [W.heap.size] g D gr D (W.alloc (.cells #[.int .i64 3, .int .i64 file, .int .i64 at_, .int .i64 n, .slice B data.length cb] 48))) := Lib.hid (h.add (x0 W _) (Nat.le_refl _) (by simp))
  have hw0 := h.x.size
  have HPA : Hid (Blk (W.alloc (.cells #[.int .i64 3, .int .i64 file, .int .i64 at_, .int .i64 n, .slice B data.length cb] 48)) W.heap.size #[.int .i64 3, .int .i64 file, .int .i64 at_, .int .i64 n, .slice B data.length cb] 48) := Lib.hid (Blk.new W _ _)
  have HQ := Lib.hid hq
  have hI1 := hq.i1
  have hI2 := hq.i2
  have hI3 := hq.i3
  have hdl := hq.len
  simp only at hI1 hI2 hI3 hdl
  obtain ⟨Wp, hWp⟩ : ∃ x, x = W.heap.size := ⟨_, rfl⟩
  have HWP := Lib.hid hWp
  clear h hq hWp Wp HWP
  obtain ⟨e0, he0⟩ : ∃ x : Int, x = (syncD D).1 := ⟨_, rfl⟩
  have HE0 := Lib.hid he0
  clear he0
  go_enter Try.func32, Try.ntmps32
  go_wp2_with fail
  refine (tp_sync H1.out).mono ?_
  rintro e w1 ⟨rfl, h2, x2⟩
  rw [← HE0.out]
  have H2 := Lib.hid h2
  clear h2 x2
  go_wp2_with fail
  refine (td_sync H2.out).mono ?_
  rintro e w2 ⟨rfl, h3, x3⟩
  rw [← HE0.out]
  have H3 := Lib.hid h3
  clear h3 x3
  go_wp2_with fail
  go_ret3
  exact ⟨g, gr, _, by simp, H3.out.less (fun k hk => by simp at hk), sync_wait1 D⟩
set_option maxRecDepth 100000 in
set_option maxHeartbeats 16000000 in
theorem call_arm (w0 W : World) (g gr : Nat) (D : DS) (h : Two w0 [] g D gr D W) (file at_ n : Int) (data : List Int) (B : Option Addr) (cb : Nat) (hq : AskOk w0 ⟨4, file, at_, n, data⟩ B cb) (hwl : D.wait.length ≤ 900) :
    Calls Try.prog 32 #[.pointer (some ⟨g, 0, none⟩), .pointer (some ⟨gr, 0, none⟩), .agg #[.int .i64 4, .int .i64 file, .int .i64 at_, .int .i64 n, .slice B data.length cb]] W (CallP w0 D) := by
  have H1 : Hid (Two w0 [W.heap.size] g D gr D (W.alloc (.cells #[.int .i64 4, .int .i64 file, .int .i64 at_, .int .i64 n, .slice B data.length cb] 48))) := Lib.hid (h.add (x0 W _) (Nat.le_refl _) (by simp))
  have hw0 := h.x.size
  have HPA : Hid (Blk (W.alloc (.cells #[.int .i64 4, .int .i64 file, .int .i64 at_, .int .i64 n, .slice B data.length cb] 48)) W.heap.size #[.int .i64 4, .int .i64 file, .int .i64 at_, .int .i64 n, .slice B data.length cb] 48) := Lib.hid (Blk.new W _ _)
  have HQ := Lib.hid hq
  have hI1 := hq.i1
  have hI2 := hq.i2
  have hI3 := hq.i3
  have hdl := hq.len
  simp only at hI1 hI2 hI3 hdl
  obtain ⟨Wp, hWp⟩ : ∃ x, x = W.heap.size := ⟨_, rfl⟩
  have HWP := Lib.hid hWp
  clear h hq hWp Wp HWP
  go_enter Try.func32, Try.ntmps32
  go_wp2_with fail
  refine (tp_arm H1.out at_ (by unfold I64 at hI2; omega)).mono ?_
  rintro e w1 ⟨rfl, h2, x2⟩
  have H2 := Lib.hid h2
  have HPA1 := Lib.hid (HPA.out.ext x2 (fun h => h.1 (List.mem_singleton.2 rfl)))
  have e2 := HPA1.out.cell 2
  clear h2 x2
  go_wp2_with fail
  refine (td_arm H2.out at_ rfl).mono ?_
  rintro e w2 ⟨rfl, h3, x3⟩
  have H3 := Lib.hid h3
  clear h3 x3
  go_wp2_with fail
  go_ret3
  exact ⟨g, gr, _, rfl, H3.out.less (fun k hk => by simp at hk), by rw [(armD_safe D at_).2.1]; omega⟩
set_option maxRecDepth 100000 in
set_option maxHeartbeats 16000000 in
theorem call_wipe (w0 W : World) (g gr : Nat) (D : DS) (h : Two w0 [] g D gr D W) (file at_ n : Int) (data : List Int) (B : Option Addr) (cb : Nat) (hq : AskOk w0 ⟨6, file, at_, n, data⟩ B cb) (hwl : D.wait.length ≤ 900) :
    Calls Try.prog 32 #[.pointer (some ⟨g, 0, none⟩), .pointer (some ⟨gr, 0, none⟩), .agg #[.int .i64 6, .int .i64 file, .int .i64 at_, .int .i64 n, .slice B data.length cb]] W (CallP w0 D) := by
  have H1 : Hid (Two w0 [W.heap.size] g D gr D (W.alloc (.cells #[.int .i64 6, .int .i64 file, .int .i64 at_, .int .i64 n, .slice B data.length cb] 48))) := Lib.hid (h.add (x0 W _) (Nat.le_refl _) (by simp))
  have hw0 := h.x.size
  have HPA : Hid (Blk (W.alloc (.cells #[.int .i64 6, .int .i64 file, .int .i64 at_, .int .i64 n, .slice B data.length cb] 48)) W.heap.size #[.int .i64 6, .int .i64 file, .int .i64 at_, .int .i64 n, .slice B data.length cb] 48) := Lib.hid (Blk.new W _ _)
  have HQ := Lib.hid hq
  have hI1 := hq.i1
  have hI2 := hq.i2
  have hI3 := hq.i3
  have hdl := hq.len
  simp only at hI1 hI2 hI3 hdl
  obtain ⟨Wp, hWp⟩ : ∃ x, x = W.heap.size := ⟨_, rfl⟩
  have HWP := Lib.hid hWp
  clear h hq hWp Wp HWP
  go_enter Try.func32, Try.ntmps32
  go_wp2_with fail
  refine (tp_wipe H1.out).mono ?_
  rintro e w1 ⟨g', rfl, h2, x2⟩
  have H2 := Lib.hid h2
  have HPA1 := Lib.hid (HPA.out.ext0 x2)
  clear h2 x2
  go_wp2_with fail
  refine (td_wipe H2.out rfl).mono ?_
  rintro e w2 ⟨gr', rfl, ⟨h3, h4⟩, x3⟩
  have H3 := Lib.hid h3
  have H4 := Lib.hid h4
  have HPA2 := Lib.hid (HPA1.out.ext0 x3)
  have e1 := HPA2.out.cell 1
  clear h3 h4 x3
  go_wp2_with fail
  refine (sameD_any H3.out file).mono ?_
  rintro e w3 ⟨rfl, x4⟩
  have H5 := Lib.hid (H4.out.ext0 x4)
  clear x4
  go_wp2_with fail
  go_ret3
  exact ⟨g', gr', _, rfl, H5.out.less (fun k hk => by simp at hk), by simp [emptyD]⟩
set_option maxRecDepth 100000 in
set_option maxHeartbeats 16000000 in
theorem call_cut (w0 W : World) (g gr : Nat) (D : DS) (h : Two w0 [] g D gr D W) (file at_ n : Int) (data : List Int) (B : Option Addr) (cb : Nat) (hq : AskOk w0 ⟨2, file, at_, n, data⟩ B cb) (hwl : D.wait.length ≤ 900) :
    Calls Try.prog 32 #[.pointer (some ⟨g, 0, none⟩), .pointer (some ⟨gr, 0, none⟩), .agg #[.int .i64 2, .int .i64 file, .int .i64 at_, .int .i64 n, .slice B data.length cb]] W (CallP w0 D) := by
  have H1 : Hid (Two w0 [W.heap.size] g D gr D (W.alloc (.cells #[.int .i64 2, .int .i64 file, .int .i64 at_, .int .i64 n, .slice B data.length cb] 48))) := Lib.hid (h.add (x0 W _) (Nat.le_refl _) (by simp))
  have hw0 := h.x.size
  have HPA : Hid (Blk (W.alloc (.cells #[.int .i64 2, .int .i64 file, .int .i64 at_, .int .i64 n, .slice B data.length cb] 48)) W.heap.size #[.int .i64 2, .int .i64 file, .int .i64 at_, .int .i64 n, .slice B data.length cb] 48) := Lib.hid (Blk.new W _ _)
  have HQ := Lib.hid hq
  have hI1 := hq.i1
  have hI2 := hq.i2
  have hI3 := hq.i3
  have hdl := hq.len
  simp only at hI1 hI2 hI3 hdl
  obtain ⟨Wp, hWp⟩ : ∃ x, x = W.heap.size := ⟨_, rfl⟩
  have HWP := Lib.hid hWp
  clear h hq hWp Wp HWP
  obtain ⟨e0, he0⟩ : ∃ x : Int, x = (cutD D file at_).1 := ⟨_, rfl⟩
  have HE0 := Lib.hid he0
  clear he0
  have HT1 : Hid (∀ W', Ext None_ (W.alloc (.cells #[.int .i64 2, .int .i64 file, .int .i64 at_, .int .i64 n, .slice B data.length cb] 48)) W' → Two w0 [W.heap.size] g D gr D W' ∧ Blk W' W.heap.size #[.int .i64 2, .int .i64 file, .int .i64 at_, .int .i64 n, .slice B data.length cb] 48) := Lib.hid (fun W' hx => ⟨H1.out.ext0 hx, HPA.out.ext0 hx⟩)
  clear H1
  have c1 := HPA.out.cell 1
  have c2 := HPA.out.cell 2
  go_enter Try.func32, Try.ntmps32
  go_upto_region 12 with fail
  go_cut [6, 7, 8] from 70 (fun v6 v7 v8 wx => v6 = .pointer (some ⟨g, 0, none⟩) ∧ v7 = .pointer (some ⟨gr, 0, none⟩) ∧ v8 = .bool true ∧ Hid (Two w0 [W.heap.size] g (cutD D file at_).2 gr (cutD D file at_).2 wx))
  case first =>
    have hcc : (W.alloc (.cells #[.int .i64 2, .int .i64 file, .int .i64 at_, .int .i64 n, .slice B data.length cb] 48)).drew.cell? ⟨W.heap.size, 1, none⟩ = some (.int .i64 file) ∧ (W.alloc (.cells #[.int .i64 2, .int .i64 file, .int .i64 at_, .int .i64 n, .slice B data.length cb] 48)).drew.cell? ⟨W.heap.size, 2, none⟩ = some (.int .i64 at_) := ⟨c1, c2⟩
    have HCC := Lib.hid hcc
    clear hcc c1 c2
    go_region_held3 (fun W' => W'.cell? ⟨W.heap.size, 1, none⟩ = some (.int .i64 file) ∧ W'.cell? ⟨W.heap.size, 2, none⟩ = some (.int .i64 at_)) (first | exact HDE.out | exact HDD.out | exact HCC.out) (first
      | (go_at_call 26; refine (tp_cut (HT1.out _ ?_).1 file at_ (by omega)).mono ?_; exact (Ext.refl None_ _).drew; rintro e w1 ⟨rfl, hm, hx⟩; rw [← HE0.out]; have HM := Lib.hid hm; have HB1 : Hid (Blk w1 W.heap.size #[.int .i64 2, .int .i64 file, .int .i64 at_, .int .i64 n, .slice B data.length cb] 48) := Lib.hid ((HPA.out.drew).ext hx (fun h => h.1 (List.mem_singleton.2 rfl))); have HDD := Lib.hid (And.intro (HB1.out.cell 1) (HB1.out.cell 2)); clear hm hx)
      | (go_at_call 57; refine (td_cut HM.out file at_ rfl (by omega)).mono ?_; rintro e w2 ⟨rfl, h3, hx⟩; rw [← HE0.out]; have H3 := Lib.hid h3; have HB2 := Lib.hid (HB1.out.ext hx (fun h => h.1 (List.mem_singleton.2 rfl))); have HDE := Lib.hid (And.intro (HB2.out.cell 1) (HB2.out.cell 2)); clear h3 hx))
    all_goals (go_wp2_with fail; go_meet; exact ⟨rfl, rfl, by simp, H3⟩)
  case rest =>
    obtain ⟨rfl, rfl, rfl, H3⟩ := hcut
    clear c1 c2
    go_wp2_with fail
    go_ret3
    exact ⟨g, gr, _, rfl, H3.out.less (fun k hk => by simp at hk), cut_wait1 D file at_⟩
set_option maxRecDepth 100000 in
set_option maxHeartbeats 16000000 in
theorem call_crash (w0 W : World) (g gr : Nat) (D : DS) (h : Two w0 [] g D gr D W) (file at_ n : Int) (data : List Int) (B : Option Addr) (cb : Nat) (hq : AskOk w0 ⟨5, file, at_, n, data⟩ B cb) (hwl : D.wait.length ≤ 900) :
    Calls Try.prog 32 #[.pointer (some ⟨g, 0, none⟩), .pointer (some ⟨gr, 0, none⟩), .agg #[.int .i64 5, .int .i64 file, .int .i64 at_, .int .i64 n, .slice B data.length cb]] W (CallP w0 D) := by
  have H1 : Hid (Two w0 [W.heap.size] g D gr D (W.alloc (.cells #[.int .i64 5, .int .i64 file, .int .i64 at_, .int .i64 n, .slice B data.length cb] 48))) := Lib.hid (h.add (x0 W _) (Nat.le_refl _) (by simp))
  have hw0 := h.x.size
  have HPA : Hid (Blk (W.alloc (.cells #[.int .i64 5, .int .i64 file, .int .i64 at_, .int .i64 n, .slice B data.length cb] 48)) W.heap.size #[.int .i64 5, .int .i64 file, .int .i64 at_, .int .i64 n, .slice B data.length cb] 48) := Lib.hid (Blk.new W _ _)
  have HQ := Lib.hid hq
  have hI1 := hq.i1
  have hI2 := hq.i2
  have hI3 := hq.i3
  have hdl := hq.len
  simp only at hI1 hI2 hI3 hdl
  obtain ⟨Wp, hWp⟩ : ∃ x, x = W.heap.size := ⟨_, rfl⟩
  have HWP := Lib.hid hWp
  clear h hq hWp Wp HWP
  have HT1 : Hid (∀ W', Ext None_ (W.alloc (.cells #[.int .i64 5, .int .i64 file, .int .i64 at_, .int .i64 n, .slice B data.length cb] 48)) W' → Two w0 [W.heap.size] g D gr D W' ∧ Blk W' W.heap.size #[.int .i64 5, .int .i64 file, .int .i64 at_, .int .i64 n, .slice B data.length cb] 48) := Lib.hid (fun W' hx => ⟨H1.out.ext0 hx, HPA.out.ext0 hx⟩)
  clear H1
  have c2 := HPA.out.cell 2
  have c3 := HPA.out.cell 3
  go_enter Try.func32, Try.ntmps32
  go_upto_region 19 with fail
  go_cut [13, 14] from 106 (fun v13 v14 wx => ∃ g' gr', v13 = .pointer (some ⟨g', 0, none⟩) ∧ v14 = .pointer (some ⟨gr', 0, none⟩) ∧ Hid (Two w0 [W.heap.size] g D gr D wx) ∧ Hid (Two w0 [W.heap.size] g' (crashD D at_ n) gr' (crashD D at_ n) wx) ∧ Hid (Blk wx W.heap.size #[.int .i64 5, .int .i64 file, .int .i64 at_, .int .i64 n, .slice B data.length cb] 48))
  case first =>
    have hcc : (W.alloc (.cells #[.int .i64 5, .int .i64 file, .int .i64 at_, .int .i64 n, .slice B data.length cb] 48)).drew.cell? ⟨W.heap.size, 2, none⟩ = some (.int .i64 at_) ∧ (W.alloc (.cells #[.int .i64 5, .int .i64 file, .int .i64 at_, .int .i64 n, .slice B data.length cb] 48)).drew.cell? ⟨W.heap.size, 3, none⟩ = some (.int .i64 n) := ⟨c2, c3⟩
    have HCC := Lib.hid hcc
    clear hcc c2 c3
    go_region_held3 (fun W' => W'.cell? ⟨W.heap.size, 2, none⟩ = some (.int .i64 at_) ∧ W'.cell? ⟨W.heap.size, 3, none⟩ = some (.int .i64 n)) (first | exact HDE.out | exact HDD.out | exact HCC.out) (first
      | (go_at_call 22; refine (tp_crash (HT1.out _ ?_).1 at_ n hI2 (by omega)).mono ?_; exact (Ext.refl None_ _).drew; rintro e w1 ⟨g', rfl, hm, hx⟩; have HM := Lib.hid hm; have HB1 : Hid (Blk w1 W.heap.size #[.int .i64 5, .int .i64 file, .int .i64 at_, .int .i64 n, .slice B data.length cb] 48) := Lib.hid ((HPA.out.drew).ext0 hx); have HDD := Lib.hid (And.intro (HB1.out.cell 2) (HB1.out.cell 3)); clear hm hx)
      | (go_at_call 60; refine (td_crash HM.out at_ n hI2 rfl).mono ?_; rintro e w2 ⟨gr', rfl, ⟨h3, h4⟩, hx⟩; have H3 := Lib.hid h3; have H4 := Lib.hid h4; have HB2 := Lib.hid (HB1.out.ext0 hx); have HDE := Lib.hid (And.intro (HB2.out.cell 2) (HB2.out.cell 3)); clear h3 h4 hx))
    all_goals (go_wp2_with fail; go_meet; exact ⟨_, _, rfl, rfl, H3, H4, HB2⟩)
  case rest =>
    obtain ⟨g', gr', rfl, rfl, H3, H4, HB2⟩ := hcut
    have e1 := HB2.out.cell 1
    clear c2 c3
    go_wp2_with fail
    refine (sameD_any H3.out file).mono ?_
    rintro e w3 ⟨rfl, x4⟩
    have H5 := Lib.hid (H4.out.ext0 x4)
    clear x4
    go_wp2_with fail
    go_ret3
    exact ⟨g', gr', _, rfl, H5.out.less (fun k hk => by simp at hk), by simp [crashD, emptyD]⟩
set_option maxRecDepth 100000 in
set_option maxHeartbeats 16000000 in
theorem call_write (w0 W : World) (g gr : Nat) (D : DS) (h : Two w0 [] g D gr D W) (file at_ n : Int) (data : List Int) (B : Option Addr) (cb : Nat) (hq : AskOk w0 ⟨1, file, at_, n, data⟩ B cb) (hwl : D.wait.length ≤ 900) :
    Calls Try.prog 32 #[.pointer (some ⟨g, 0, none⟩), .pointer (some ⟨gr, 0, none⟩), .agg #[.int .i64 1, .int .i64 file, .int .i64 at_, .int .i64 n, .slice B data.length cb]] W (CallP w0 D) := by
  have H1 : Hid (Two w0 [W.heap.size] g D gr D (W.alloc (.cells #[.int .i64 1, .int .i64 file, .int .i64 at_, .int .i64 n, .slice B data.length cb] 48))) := Lib.hid (h.add (x0 W _) (Nat.le_refl _) (by simp))
  have hw0 := h.x.size
  have HPA : Hid (Blk (W.alloc (.cells #[.int .i64 1, .int .i64 file, .int .i64 at_, .int .i64 n, .slice B data.length cb] 48)) W.heap.size #[.int .i64 1, .int .i64 file, .int .i64 at_, .int .i64 n, .slice B data.length cb] 48) := Lib.hid (Blk.new W _ _)
  have HQ := Lib.hid hq
  have hI1 := hq.i1
  have hI2 := hq.i2
  have hI3 := hq.i3
  have hdl := hq.len
  simp only at hI1 hI2 hI3 hdl
  obtain ⟨Wp, hWp⟩ : ∃ x, x = W.heap.size := ⟨_, rfl⟩
  have HWP := Lib.hid hWp
  clear h hq hWp Wp HWP
  obtain ⟨e0, he0⟩ : ∃ x : Int, x = (writeD D file at_ data).1 := ⟨_, rfl⟩
  have HE0 := Lib.hid he0
  have hx1 := H1.out.x
  have HROW : Hid (∀ W', Ext None_ w0 W' → Row W' B (B8 data)) := Lib.hid (fun W' hx => HQ.out.row.ext0 hx)
  have HBY : Hid (Byt data) := Lib.hid HQ.out.byt
  have HBL : Hid (∀ ad, B = some ad → 0 < data.length → ad.block < w0.heap.size) := Lib.hid HQ.out.blk
  clear he0
  go_enter Try.func32, Try.ntmps32
  go_wp2_with fail
  obtain ⟨W1, hW1⟩ : ∃ x, x = W.alloc (.cells #[.int .i64 1, .int .i64 file, .int .i64 at_, .int .i64 n, .slice B data.length cb] 48) := ⟨_, rfl⟩
  rw [← hW1] at H1 HPA hx1 ⊢
  have HX1 := Lib.hid hx1
  have c4 := HPA.out.cell 4
  have HWW : Hid (W.heap.size < W1.heap.size) := Lib.hid (by rw [hW1]; simp)
  clear hx1
  clear hW1
  refine (roomy_any B cb data 71 W1 (HROW.out _ HX1.out) (by omega)).mono ?_
  rintro e w2 ⟨rfl, hbf, hx2⟩
  have H2 : Hid (Two w0 [W1.heap.size, W.heap.size] g D gr D w2) := Lib.hid (H1.out.add hx2 (Nat.le_refl _) hbf.lt)
  have HP2 := Lib.hid (HPA.out.ext0 hx2)
  have HBF := Lib.hid hbf
  have HW1 := Lib.hid (show w0.heap.size ≤ W1.heap.size from HX1.out.size)
  obtain ⟨A9, hA9, hcut9⟩ := cut_h (P := Try.prog) 22 5 1 Try.underlying22 infoU8 (some ⟨W1.heap.size, 0, none⟩) (data.length + 80) (data.length + 80) (data.length : Int) (by omega) (by omega)
  rw [Int.toNat_natCast] at hcut9
  obtain ⟨c9, hc9⟩ : ∃ x, x = data.length + 80 := ⟨_, rfl⟩
  have HCUT : Hid ((∀ W : World, (Instr.slice 22 (.slice (some ⟨W1.heap.size, 0, none⟩) (data.length + 80) (data.length + 80)) none (some (.int .i64 (data.length : Int))) none).run Try.prog W = .ok (.slice A9 data.length c9) W) ∧ ∀ W', Blk W' W1.heap.size (B8 (mark80 data 71)).toArray 5 → Row W' A9 (B8 data)) := Lib.hid ⟨fun W => by rw [hc9]; exact hcut9 W, fun W' hb => by
    have hr := hb.row
    have := cut_row (lo := 0) (hi := data.length) hr hA9 (by simp [B8_length, mark80_length])
    have e : (B8 (mark80 data 71)).take data.length = B8 data := by
      unfold mark80
      rw [B8_append, List.take_left' (B8_length _)]
    simpa [e] using this⟩
  have HPB : Hid (∀ ad, A9 = some ad → 0 < data.length → ad.block ∈ [W1.heap.size, W.heap.size] ∨ ad.block < w0.heap.size) := Lib.hid (fun ad e _ => by
    obtain ⟨ad0, e1, e2⟩ := cut_block (lo := 0) hA9 ad e
    cases e1
    left
    rw [e2]
    exact List.mem_cons_self ..)
  clear hbf hx2 hA9 hcut9 hc9 c4
  go_wp2_with fail
  refine wp_region_chain [10, 11] [(0, 0), (0, 0), (0, 0), (0, 0), (0, 0), (0, 0), (0, 0), (0, 0), (0, 0), (0, 0), (0, 1), (1, 2)] (fun _ k => KX w0 [W1.heap.size, W.heap.size] k) [⟨fun w => Two w0 [W1.heap.size, W.heap.size] g D gr D w ∧ Blk w W.heap.size #[.int .i64 1, .int .i64 file, .int .i64 at_, .int .i64 n, .slice B data.length cb] 48 ∧ Blk w W1.heap.size (B8 (mark80 data 71)).toArray 5, fun _ _ h hx => ⟨h.1.ext0 hx, h.2.1.ext0 hx, h.2.2.ext0 hx⟩⟩, ⟨fun w => Two w0 [W1.heap.size, W.heap.size] g (writeD D file at_ data).2 gr D w ∧ Blk w W.heap.size #[.int .i64 1, .int .i64 file, .int .i64 at_, .int .i64 n, .slice B data.length cb] 48 ∧ Blk w W1.heap.size (B8 (mark80 data 71)).toArray 5, fun _ _ h hx => ⟨h.1.ext0 hx, h.2.1.ext0 hx, h.2.2.ext0 hx⟩⟩, ⟨fun w => Two w0 [W1.heap.size, W.heap.size] g (writeD D file at_ data).2 gr D w ∧ Blk w W.heap.size #[.int .i64 1, .int .i64 file, .int .i64 at_, .int .i64 n, .slice B data.length cb] 48 ∧ Blk w W1.heap.size (B8 (mark80 data 71)).toArray 5, fun _ _ h hx => ⟨h.1.ext0 hx, h.2.1.ext0 hx, h.2.2.ext0 hx⟩⟩] [cv _, cv _, cv (.int .i64 file), cv _, cv (.int .i64 at_), cv _, cv _, cv (.slice B data.length cb), cv _, cv (.slice A9 data.length c9), cv (.int .i64 e0), cv _] (by kernel_rfl) rfl rfl rfl rfl rfl rfl rfl rfl (⟨H2.out.ext0 (Ext.refl _ _).drew, HP2.out.drew, HBF.out.drew⟩) ⟨
    (by
      intro Lq aq wq kq hd hj hlo hhi Kq hK
      rw [if_pos (wanted_none rfl)]
      have f0 := hj.base 0 rfl rfl
      exact opMove hK rfl (ev f0) rfl),
    (by
      intro Lq aq wq kq hd hj hlo hhi Kq hK
      rw [if_pos (wanted_none rfl)]
      have f5 := hj.base 5 rfl rfl
      exact opFieldA hK rfl (k := 1) (ev f5) (fun W => by kernel_rfl) rfl),
    (by
      intro Lq aq wq kq hd hj hlo hhi Kq hK
      rw [if_pos (wanted_none rfl)]
      have f25 := hj.val 1 25 rfl rfl (by simp) rfl (hd ⟨1, .data⟩ (by simp) rfl)
      have hb : Blk wq W.heap.size #[.int .i64 1, .int .i64 file, .int .i64 at_, .int .i64 n, .slice B data.length cb] 48 := by
        obtain rfl : kq = 0 := Nat.le_antisymm hhi (Nat.zero_le _)
        exact hj.inv.2.1
      exact opLoad hK rfl (ev f25) Try.underlying3 rfl (hb.cell 1) rfl),
    (by
      intro Lq aq wq kq hd hj hlo hhi Kq hK
      rw [if_pos (wanted_none rfl)]
      have f5 := hj.base 5 rfl rfl
      exact opFieldA hK rfl (k := 2) (ev f5) (fun W => by kernel_rfl) rfl),
    (by
      intro Lq aq wq kq hd hj hlo hhi Kq hK
      rw [if_pos (wanted_none rfl)]
      have f27 := hj.val 3 27 rfl rfl (by simp) rfl (hd ⟨3, .data⟩ (by simp) rfl)
      have hb : Blk wq W.heap.size #[.int .i64 1, .int .i64 file, .int .i64 at_, .int .i64 n, .slice B data.length cb] 48 := by
        obtain rfl : kq = 0 := Nat.le_antisymm hhi (Nat.zero_le _)
        exact hj.inv.2.1
      exact opLoad hK rfl (ev f27) Try.underlying3 rfl (hb.cell 2) rfl),
    (by
      intro Lq aq wq kq hd hj hlo hhi Kq hK
      rw [if_pos (wanted_none rfl)]
      have f9 := hj.base 9 rfl rfl
      exact opMove hK rfl (ev f9) rfl),
    (by
      intro Lq aq wq kq hd hj hlo hhi Kq hK
      rw [if_pos (wanted_none rfl)]
      have f5 := hj.base 5 rfl rfl
      exact opFieldA hK rfl (k := 4) (ev f5) (fun W => by kernel_rfl) rfl),
    (by
      intro Lq aq wq kq hd hj hlo hhi Kq hK
      rw [if_pos (wanted_none rfl)]
      have f30 := hj.val 6 30 rfl rfl (by simp) rfl (hd ⟨6, .data⟩ (by simp) rfl)
      have hb : Blk wq W.heap.size #[.int .i64 1, .int .i64 file, .int .i64 at_, .int .i64 n, .slice B data.length cb] 48 := by
        obtain rfl : kq = 0 := Nat.le_antisymm hhi (Nat.zero_le _)
        exact hj.inv.2.1
      exact opLoad hK rfl (ev f30) Try.underlying22 rfl (hb.cell 4) rfl),
    (by
      intro Lq aq wq kq hd hj hlo hhi Kq hK
      rw [if_pos (wanted_none rfl)]
      have f31 := hj.val 7 31 rfl rfl (by simp) rfl (hd ⟨7, .data⟩ (by simp) rfl)
      exact opLen hK rfl (ev f31) (by kernel_rfl) rfl),
    (by
      intro Lq aq wq kq hd hj hlo hhi Kq hK
      rw [if_pos (wanted_none rfl)]
      have f29 := hj.val 5 29 rfl rfl (by simp) rfl (hd ⟨5, .data⟩ (by simp) rfl)
      have f32 := hj.val 8 32 rfl rfl (by simp) rfl (hd ⟨8, .data⟩ (by simp) rfl)
      exact opSliceOp hK rfl (ev f29) rfl (by simp [ev f32]) rfl Try.underlying22 HCUT.out.1 rfl),
    (by
      intro Lq aq wq hd hj Kq hK
      rw [if_pos (wanted_none rfl)]
      have f24 := hj.val 0 24 rfl rfl (by simp) rfl (hd ⟨0, .data⟩ (by simp) rfl)
      have f26 := hj.val 2 26 rfl rfl (by simp) rfl (hd ⟨2, .data⟩ (by simp) rfl)
      have f28 := hj.val 4 28 rfl rfl (by simp) rfl (hd ⟨4, .data⟩ (by simp) rfl)
      have f33 := hj.val 9 33 rfl rfl (by simp) rfl (hd ⟨9, .data⟩ (by simp) rfl)
      exact opCallC hK Try.func15 (by kernel_rfl) rfl (args := #[.pointer (some ⟨g, 0, none⟩), .int .i64 file, .int .i64 at_, .slice A9 data.length c9]) (by simp [ev f24, ev f26, ev f28, ev f33]) ((tp_write hj.inv.1 file at_ A9 c9 data (HCUT.out.2 _ hj.inv.2.2) HBY.out HPB.out (by omega) (by omega)).mono fun e w' ⟨h1, h2, h3⟩ => ⟨_, h1, congrArg (Value.int .i64) HE0.out.symm, ⟨h2, Blk.ext hj.inv.2.1 h3 (fun h => h.1 (by simp)), Blk.ext hj.inv.2.2 h3 (fun h => h.1 (by simp))⟩, h3⟩)),
    (by
      intro Lq aq wq hd hj Kq hK
      rw [if_pos (wanted_none rfl)]
      have f34 := hj.val 10 34 rfl rfl (by simp) rfl (hd ⟨10, .data⟩ (by simp) rfl)
      exact opAssignC hK rfl (ev f34) rfl hj.inv (Ext.refl _ _)),
    trivial⟩ ?fin
  case fin =>
    intro vs w3 hI hg
    have hI : Two w0 [W1.heap.size, W.heap.size] g (writeD D file at_ data).2 gr D w3 ∧ Blk w3 W.heap.size #[.int .i64 1, .int .i64 file, .int .i64 at_, .int .i64 n, .slice B data.length cb] 48 ∧ Blk w3 W1.heap.size (B8 (mark80 data 71)).toArray 5 := hI
    have v11 : vs 11 = _ := hg 11 (by decide)
    have H3 := Lib.hid hI.1
    have HP3 := Lib.hid hI.2.1
    have HB3 := Lib.hid hI.2.2
    have p1 := HP3.out.cell 1
    have p2 := HP3.out.cell 2
    have p4 := HP3.out.cell 4
    clear hI hg
    simp only [putAll, v11, Nat.reduceAdd, Nat.zero_add]
    simp only [Act.put, List.setIfInBounds_toArray, List.set_cons_succ, List.set_cons_zero]
    go_wp2_with fail
    refine (td_write H3.out file at_ B cb data rfl (HROW.out _ H3.out.x) HBY.out (fun ad e hl => .inr (HBL.out ad e hl)) (by omega) (by omega)).mono ?_
    rintro e w4 ⟨rfl, h4, x4⟩
    rw [← HE0.out]
    have H4 := Lib.hid h4
    have HP4 := Lib.hid (HP3.out.ext x4 (fun h => h.1 (by simp)))
    have HB4 := Lib.hid (HB3.out.ext x4 (fun h => h.1 (by simp)))
    have q4 := HP4.out.cell 4
    clear h4 x4 p1 p2 p4
    go_wp2_with fail
    have HIN := intact_any (some ⟨W1.heap.size, 0, none⟩) (data.length + 80) (mark80 data 71) B cb data 71 w4 (by have := HB4.out.row; simpa using this) (HROW.out _ H4.out.x) (by rw [mark80_length]; omega) (by rw [mark80_length]; omega) (by omega)
    rw [mark80_length] at HIN
    refine HIN.mono ?_
    clear HIN
    rintro e w5 ⟨rfl, x5⟩
    have hmm : decide (mark80 data 71 = mark80 data 71) = true := by simp
    rw [hmm]
    have H5 := Lib.hid (H4.out.ext0 x5)
    have HBY5 : Hid (ByR w5 W1.heap.size (data.length + 80)) := Lib.hid ⟨_, HB4.out.ext0 x5, fun i hi => by
      have hl : (B8 (mark80 data 71)).length = data.length + 80 := by rw [B8_length, mark80_length]
      have hi2 : i < (mark80 data 71).length := by rw [mark80_length]; exact hi
      have hby : Byt (mark80 data 71) := fun x hx => by
        unfold mark80 at hx
        rcases List.mem_append.1 hx with h | h
        · exact HBY.out x h
        · rw [(List.mem_replicate.1 h).2]; omega
      refine ⟨(mark80 data 71)[i], ?_, hby _ (List.getElem_mem _)⟩
      rw [List.getElem?_toArray]
      unfold B8
      rw [List.getElem?_map, List.getElem?_eq_getElem hi2]
      rfl⟩
    clear x5 hmm q4 H3 H4 HP3 HP4 HB3 HB4
    go_wp2_with fail
    obtain ⟨L, hL⟩ : ∃ x, x = data.length + 80 := ⟨_, rfl⟩
    rw [← hL] at HBY5
    have HLL := Lib.hid hL
    go_loopw [12] (fun v12 wr => ∃ i : Nat, v12 = .int .i64 i ∧ i ≤ data.length + 80 ∧ Hid (Two w0 [W1.heap.size, W.heap.size] g (writeD D file at_ data).2 gr (writeD D file at_ data).2 wr) ∧ Hid (ByR wr W1.heap.size L)) (fun v12 _ => data.length + 80 - (intOf v12).toNat)
    case atStart => exact ⟨0, rfl, by omega, H5, HBY5⟩
    case round =>
      clear H5 HBY5 hL
      obtain ⟨i, rfl, hi, h6, hby6⟩ := hrel
      by_cases hlt : i < data.length + 80
      · obtain ⟨cur, hblk, hcs⟩ := hby6.out
        obtain ⟨x, hx, hx0, hx1⟩ := hcs i (by rw [HLL.out]; exact hlt)
        have hcell := hblk.cell i
        rw [hx] at hcell
        have hfro := hblk.frozen i
        have HBL := Lib.hid hblk
        clear hx hcs hblk
        go_wp2_with fail
        go_roundw
        case rel => exact ⟨i + 1, by go_num, by omega, Lib.hid (h6.out.write (List.mem_cons_self ..) HW1.out ((Ext.refl (fun k => k = W1.heap.size) wr).setCell (p := ⟨W1.heap.size, i, none⟩) (Or.inl rfl) _)), Lib.hid (ByR.set hby6.out i _ (by omega) (by omega))⟩
        case measure => simp [intOf]; omega
      · obtain rfl : i = data.length + 80 := by omega
        go_wp2_with fail
        go_ret3
        exact ⟨g, gr, _, rfl, h6.out.less (fun k hk => by simp at hk), write_wait D file at_ data⟩
end Go.Proofs.Ytakcdmmniaipeaa
