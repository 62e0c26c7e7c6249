/- Package disk, walked: Write. Written by gen_disk9.py. -/
import Derived.Test.YtghkgfeamijefaaDisk8
import Derived.Test.YtghkgfeamijefaaReg7
import Derived.Great.BuildSlice
set_option linter.unusedVariables false
set_option linter.unusedSimpArgs false
namespace Go.Proofs.Ytghkgfeamijefaa
open Go.RowKit B
theorem wpAppC {w : World} {o : Oper} {a : Act} {K : Act → World → Prop} {Q : Exit → Act → World → Prop} (s x : Operand)
    (ho : o.op = .call { callee := .builtin .append, args := #[s, x], argTypes := #[76, 76] }) (v : Value) (ch : List Chg) (c : Chg) (u : Value) {C M : Nat → Prop} (hs : a.eval s = v) (hw : Wts w C M v ch) (A : Option Addr) (hx : a.eval x = .slice A 1 1) (hb : Row w A (chgV c u)) (hu : Sl w C u c.p) (hC : ∀ k, C k → ¬ v.ownBlock = some k) (hlen : ch.length ≤ 1099511627776)
    (h : ∀ v' w', Wts w' C (fun k => v.ownBlock = some k ∨ w.heap.size ≤ k) v' (ch ++ [c]) → Ext (fun k => v.ownBlock = some k) w w' → K (a.put o.dst v') w') : o.wp Try.prog a w K Q := by
  obtain ⟨pv, h1, h2, h3⟩ := hw
  refine wpApp s x 76 ho 81 _ 4 48 Try.underlying76 infoChg rfl (by decide) (by decide) M v ch.length _ hs h2 A 1 1 (chgV c u) hx rfl hb (chg_one hu) (by omega) ?_
  intro v' w' hown hx
  refine h v' w' ⟨pv ++ [u], by simp [h1], ?_, fun i q y hi hy => ?_⟩ hx
  · have he : ((ch ++ [c]).zip (pv ++ [u])).flatMap (fun q => chgV q.1 q.2) = (ch.zip pv).flatMap (fun q => chgV q.1 q.2) ++ chgV c u := by
      rw [List.zip_append h1.symm]; simp
    rw [he, List.length_append, List.length_singleton]
    exact hown
  · by_cases hlt : i < ch.length
    · rw [List.getElem?_append_left hlt] at hi
      rw [List.getElem?_append_left (by omega)] at hy
      exact (h3 i q y hi hy).ext hx hC
    · have hi2 : i = ch.length := by
        have := (List.getElem?_eq_some_iff.1 hi).1
        simp at this
        omega
      subst hi2
      rw [List.getElem?_append_right (Nat.le_refl _), Nat.sub_self] at hi
      rw [List.getElem?_append_right (by omega), h1, Nat.sub_self] at hy
      cases hi
      cases hy
      exact hu.ext hx hC
theorem rowP {w W : World} {A : Option Addr} {p : List Int} {M : Nat → Prop} (hp : Row w A (B8 p)) (hx : Ext M w W) (hpM : ∀ ad, A = some ad → 0 < p.length → ¬ M ad.block) : Row W A (B8 p) := by
  by_cases h : 0 < p.length
  · exact hp.ext hx (fun ad e => hpM ad e h)
  · rw [List.eq_nil_of_length_eq_zero (by omega : p.length = 0)]
    exact Row.nil _ _
theorem Left.trans0 {w w1 w2 : World} {M C : Nat → Prop} {g : Nat} {D : DS} (h : Left w w1 M C g D) (hx : Ext None_ w1 w2) : Left w w2 M C g D := by
  obtain ⟨M', C', h1, h2, h3, h4⟩ := h
  exact ⟨M', C', h1.ext0 hx, h2.trans0 hx, h3, h4⟩
theorem Left.after {w w1 w2 : World} {M M1 C C1 : Nat → Prop} {g : Nat} {D : DS} (h : Left w1 w2 M1 C1 g D) (hx : Ext M w w1) (hm : ∀ k, M1 k → M k ∨ w.heap.size ≤ k) (hc : ∀ k, C1 k → C k ∨ w.heap.size ≤ k) : Left w w2 M C g D := by
  obtain ⟨M', C', h1, h2, h3, h4⟩ := h
  have hs := hx.size
  refine ⟨M', C', h1, hx.trans h2 (fun k hk hk2 => ?_), fun k hk => ?_, fun k hk => ?_⟩
  · rcases hm k hk2 with h | h
    · exact h
    · omega
  · rcases h3 k hk with h | h
    · exact hm k h
    · exact .inr (by omega)
  · rcases h4 k hk with h | h
    · exact hc k h
    · exact .inr (by omega)
/-! ### the words of the region that appends the change -/
abbrev SV (wV : World) : Nat → Nat → Prop := fun _ k => k < wV.heap.size
theorem OwnB.farS {w w' wV : World} {j : Nat} {u : Value} {l : List Int} (h : OwnB w (fun k => wV.heap.size ≤ k) u l) (hx : Ext (SV wV j) w w') : OwnB w' (fun k => wV.heap.size ≤ k) u l := Own.ext h hx (fun k hk hs => by have := h.blk k hk; have : k < wV.heap.size := hs; omega)
def cOwn8 (wV : World) (l : List Int) : CG (SV wV) := ⟨fun _ u w => OwnB w (fun k => wV.heap.size ≤ k) u l, fun _ _ _ _ h hx => OwnB.ext0 h hx, fun _ _ _ _ hx h => OwnB.farS h hx⟩
def cAggC (wV : World) (q : Chg) : CG (SV wV) := ⟨fun _ u w => ∃ A c, u = .agg #[.bool q.cut, .int .i64 q.file, .int .i64 q.at_, .slice A q.p.length c] ∧ OwnB w (fun k => wV.heap.size ≤ k) (.slice A q.p.length c) q.p, fun _ _ _ _ ⟨A, c, h1, h2⟩ hx => ⟨A, c, h1, OwnB.ext0 h2 hx⟩, fun _ _ _ _ hx ⟨A, c, h1, h2⟩ => ⟨A, c, h1, OwnB.farS h2 hx⟩⟩
def cRowC (wV : World) (q : Chg) : CG (SV wV) := ⟨fun _ u w => ∃ b A c, u = .slice (some ⟨b, 0, none⟩) 1 1 ∧ wV.heap.size ≤ b ∧ Row w (some ⟨b, 0, none⟩) (chgV q (.slice A q.p.length c)) ∧ OwnB w (fun k => wV.heap.size ≤ k) (.slice A q.p.length c) q.p,
  fun _ _ _ _ ⟨b, A, c, h1, h2, h3, h4⟩ hx => ⟨b, A, c, h1, h2, h3.ext0 hx, OwnB.ext0 h4 hx⟩, fun _ _ _ _ hx ⟨b, A, c, h1, h2, h3, h4⟩ => ⟨b, A, c, h1, h2, h3.ext hx (fun ad e hs => by cases e; have : b < wV.heap.size := hs; omega), OwnB.farS h4 hx⟩⟩
def AppQ (wV : World) (g : Nat) (D : DS) (q : Chg) (M C : Nat → Prop) (wv u : Value) (w : World) : Prop := ∃ wa C1, DiskAt wa M C1 g D ∧ wa.cell? ⟨g, 3, none⟩ = some wv ∧ Wts w C1 (fun k => wv.ownBlock = some k ∨ wa.heap.size ≤ k) u (D.wait ++ [q]) ∧ Ext (fun k => wv.ownBlock = some k) wa w ∧ Ext None_ wV wa ∧ (∀ k, C1 k → C k ∨ wV.heap.size ≤ k)
theorem AppQ.ext0 {wV w w' : World} {g : Nat} {D : DS} {q : Chg} {M C : Nat → Prop} {wv u : Value} (h : AppQ wV g D q M C wv u w) (hx : Ext None_ w w') : AppQ wV g D q M C wv u w' := by
  obtain ⟨wa, C1, h1, h2, h3, h4, h5, h6⟩ := h
  exact ⟨wa, C1, h1, h2, h3.ext hx (fun _ _ a => a) (fun _ _ a => a), h4.trans0 hx, h5, h6⟩
def cApp (wV : World) (g : Nat) (D : DS) (q : Chg) (M C : Nat → Prop) (wv : Value) : CG (SV wV) := cR 2 2 (fun u w => AppQ wV g D q M C wv u w) (fun _ _ _ h hx => h.ext0 hx) (fun k h1 h2 => by omega)
theorem infoChg1 : (Try.prog.info? 81).map (·.size) = some 4 := by kernel_rfl
theorem chg_slice (A : Option Addr) (n c : Nat) (x y : Int) (b : Bool) (W : World) : (Instr.buildSlice 76 1 #[(0, .agg #[.bool b, .int .i64 x, .int .i64 y, .slice A n c])]).run Try.prog W = .ok (.slice (some ⟨W.heap.size, 0, none⟩) 1 1) (W.alloc (.cells #[.bool b, .int .i64 x, .int .i64 y, .slice A n c] 81)) := by
  obtain ⟨ie, hi, hz0, hz1, hz2⟩ := info_parts infoChg
  exact run_buildSlice W 76 81 1 _ _ ie _ Try.underlying76 hi hz0 (by rw [hz1]; decide) (by rw [hz1]; decide) (by rw [hz1]; kernel_rfl)
theorem heldN_bound' {D : DS} (h : D.ok) : heldN D.files ≤ 67108864 := by
  have hb := heldN_bound D.files 64 h.fl h.f64
  rwa [List.take_of_length_le (by have := h.f64; omega)] at hb
set_option maxRecDepth 100000 in
set_option maxHeartbeats 8000000 in
theorem DWrite_full (g : Nat) (D : DS) (M C : Nat → Prop) (n zn : Nat) (hn : n < 64) (hzn : zn ≤ 1048576) (A2 : Option Addr) (c2 : Nat) (p : List Int) (w : World) (h : DiskAt w M C g D) (hc : (countD D).1 = true) (hp : Row w A2 (B8 p)) (hby : Byt p) (hpM : ∀ ad, A2 = some ad → 0 < p.length → ¬ M ad.block) (hwl : D.wait.length ≤ 1099511627776) (hpl : p.length ≤ 140737488355328)
    (h1 : ((fileAt (countD D).2.files n).length : Int) < zn + p.length) (h2 : (countD D).2.quota < heldN (countD D).2.files - (fileAt (countD D).2.files n).length + zn + p.length) : Calls Try.prog 16 #[.pointer (some ⟨g, 0, none⟩), .int .i64 n, .int .i64 zn, .slice A2 p.length c2] w fun e w' => e = .returned (.int .i64 (10)) ∧ Left w w' M C g ((countD D).2) := by
  have HC := Lib.hid (counted_any g D M C w h)
  have hg : M g := by obtain ⟨_, _, _, _, _, _, _, _, h6, _⟩ := h.lay; exact h6.1
  have HG := Lib.hid (show ∀ W, Ext (fun k => k = g) w W → Ext M w W from fun W hx => hx.mono (fun k _ e => e ▸ hg))
  have HGM := Lib.hid hg
  have HTH := Lib.hid (fun W => there_any (n : Int) W)
  rw [show inF (n : Int) = true by simp [inF]; omega] at HTH
  rw [hc] at HC
  have HP := Lib.hid (fun W (hx : Ext M w W) => rowP hp hx hpM)
  have HBYP := Lib.hid hby
  have HPM := Lib.hid hpM
  have hw2 : (countD D).2.wait.length ≤ 1099511627776 := by unfold countD; split; exact hwl; split <;> exact hwl
  obtain ⟨D1, hD1⟩ : ∃ D1, D1 = (countD D).2 := ⟨_, rfl⟩
  rw [← hD1] at HC hw2 h1 h2 ⊢
  clear h hg hc hp hby hpM hwl hD1
  obtain ⟨l, hl⟩ : ∃ l, l = fileAt D1.files n := ⟨_, rfl⟩
  have HFI := Lib.hid hl
  rw [← hl] at h1 h2
  clear hl
  go_enter Try.func16, Try.ntmps16
  go_wp2_with (first
    | (go_at_call 50; refine HC.out.mono ?_; rintro e wR ⟨rfl, hd1, hx1⟩; have HD0 := Lib.hid hd1; have HX0 := Lib.hid hx1; clear hd1 hx1)
    | (go_at_call 51; refine (HTH.out _).mono ?_; rintro e wS ⟨rfl, hx2⟩; have HD1 := Lib.hid (HD0.out.ext0 hx2); obtain ⟨bf, bs, A, c, A1, cc1, ⟨d0, d1, d2, d3⟩, df, dfb, hc1, HR1, hcc1, HBY1, hll⟩ := HD1.out.fileN HFI.out (by omega); have HX1 : Hid (Ext M w wS) := Lib.hid ((HG.out _ HX0.out).trans0 hx2); have hq0 := HD1.out.ok.q0; have hq1 := HD1.out.ok.q1; have hhl : l.length ≤ heldN D1.files := HFI.out ▸ HD1.out.has _ (fileAt_mem (by rw [HD1.out.ok.f64]; omega)); have hhb : heldN D1.files ≤ 67108864 := heldN_bound' HD1.out.ok; clear hx2))
  refine wp_region_mem [sv _, sv _, sv _, sv _, sv _, sv (.bool true), sv (.bool true), sv _, sv (.int .i64 (heldN D1.files)), sv _, sv _, sv _, sv _, sv _, sv _, sv _, sv _, sv _, sv _, sv _, sv (.bool true), sv (.bool true)] (by kernel_rfl) rfl rfl rfl rfl ⟨
    (by
      intro Lq aq wq hd hj Kq hK
      rw [if_pos (wanted_none rfl)]
      have f2 := hj.base 2 rfl rfl
      exact opMove hK rfl (ev f2) rfl),
    (by
      intro Lq aq wq hd hj Kq hK
      rw [if_pos (wanted_none rfl)]
      have f3 := hj.base 3 rfl rfl
      exact opMove hK rfl (ev f3) rfl),
    (by
      intro Lq aq wq hd hj Kq hK
      rw [if_pos (wanted_none rfl)]
      have f33 := hj.val 1 33 rfl rfl (by simp) rfl (hd ⟨1, .data⟩ (by simp) rfl)
      exact opLen hK rfl (ev f33) (by kernel_rfl) rfl),
    (by
      intro Lq aq wq hd hj Kq hK
      rw [if_pos (wanted_none rfl)]
      have f32 := hj.val 0 32 rfl rfl (by simp) rfl (hd ⟨0, .data⟩ (by simp) rfl)
      have f34 := hj.val 2 34 rfl rfl (by simp) rfl (hd ⟨2, .data⟩ (by simp) rfl)
      exact opBin hK rfl (ev f32) (ev f34) (guardInt _ _ _ _ _ _ _ _ _) (binAdd _ _ _ _ (IntWalk.i64_in _ (by omega))) rfl),
    (by
      intro Lq aq wq hd hj Kq hK
      rw [if_pos (wanted_none rfl)]
      have f9 := hj.base 9 rfl rfl
      exact opMove hK rfl (ev f9) rfl),
    (by
      intro Lq aq wq hd hj Kq hK
      rw [if_pos (wanted_none rfl)]
      have f35 := hj.val 3 35 rfl rfl (by simp) rfl (hd ⟨3, .data⟩ (by simp) rfl)
      have f36 := hj.val 4 36 rfl rfl (by simp) rfl (hd ⟨4, .data⟩ (by simp) rfl)
      exact opBin hK rfl (ev f35) (ev f36) (guardInt _ _ _ _ _ _ _ _ _) (binGt _ _ _ _ _) (congrArg Value.bool (by first | rfl | assumption | (simp; omega) | (simp [*]; done)))),
    (by
      intro Lq aq wq hd hj Kq hK
      rw [if_pos (wanted_none rfl)]
      have f37 := hj.val 5 37 rfl rfl (by simp) rfl (hd ⟨5, .data⟩ (by simp) rfl)
      exact opMove hK rfl (ev f37) rfl),
    (by
      intro Lq aq wq hd hj Kq hK
      have fg := hj.val 6 38 rfl rfl (by simp) rfl (hd ⟨6, .guard⟩ (by simp) rfl)
      rw [wanted_some (c := true) rfl rfl rfl fg, if_pos (by rfl)]
      have f0 := hj.base 0 rfl rfl
      exact opMove hK rfl (ev f0) rfl),
    (by
      intro Lq aq wq hd hj Kq hK
      have fg := hj.val 6 38 rfl rfl (by simp) rfl (hd ⟨6, .guard⟩ (by simp) rfl)
      rw [wanted_some (c := true) rfl rfl rfl fg, if_pos (by rfl)]
      have f39 := hj.val 7 39 rfl rfl (by simp) rfl (hd ⟨7, .data⟩ (by simp) rfl)
      exact opCall hK Try.func52 (by kernel_rfl) rfl (args := #[.pointer (some ⟨g, 0, none⟩)]) (by simp [ev f39]) (call_of (held_any g D1 M C _ (HD1.out.ext0 ((Ext.refl None_ wS).drew.trans0 hj.ext))))),
    (by
      intro Lq aq wq hd hj Kq hK
      have fg := hj.val 6 38 rfl rfl (by simp) rfl (hd ⟨6, .guard⟩ (by simp) rfl)
      rw [wanted_some (c := true) rfl rfl rfl fg, if_pos (by rfl)]
      have f9 := hj.base 9 rfl rfl
      exact opMove hK rfl (ev f9) rfl),
    (by
      intro Lq aq wq hd hj Kq hK
      have fg := hj.val 6 38 rfl rfl (by simp) rfl (hd ⟨6, .guard⟩ (by simp) rfl)
      rw [wanted_some (c := true) rfl rfl rfl fg, if_pos (by rfl)]
      have f40 := hj.val 8 40 rfl rfl (by simp) rfl (hd ⟨8, .data⟩ (by simp) rfl)
      have f41 := hj.val 9 41 rfl rfl (by simp) rfl (hd ⟨9, .data⟩ (by simp) rfl)
      exact opBin hK rfl (ev f40) (ev f41) (guardInt _ _ _ _ _ _ _ _ _) (binSub _ _ _ _ (IntWalk.i64_in _ (by omega))) rfl),
    (by
      intro Lq aq wq hd hj Kq hK
      have fg := hj.val 6 38 rfl rfl (by simp) rfl (hd ⟨6, .guard⟩ (by simp) rfl)
      rw [wanted_some (c := true) rfl rfl rfl fg, if_pos (by rfl)]
      have f2 := hj.base 2 rfl rfl
      exact opMove hK rfl (ev f2) rfl),
    (by
      intro Lq aq wq hd hj Kq hK
      have fg := hj.val 6 38 rfl rfl (by simp) rfl (hd ⟨6, .guard⟩ (by simp) rfl)
      rw [wanted_some (c := true) rfl rfl rfl fg, if_pos (by rfl)]
      have f42 := hj.val 10 42 rfl rfl (by simp) rfl (hd ⟨10, .data⟩ (by simp) rfl)
      have f43 := hj.val 11 43 rfl rfl (by simp) rfl (hd ⟨11, .data⟩ (by simp) rfl)
      exact opBin hK rfl (ev f42) (ev f43) (guardInt _ _ _ _ _ _ _ _ _) (binAdd _ _ _ _ (IntWalk.i64_in _ (by omega))) rfl),
    (by
      intro Lq aq wq hd hj Kq hK
      have fg := hj.val 6 38 rfl rfl (by simp) rfl (hd ⟨6, .guard⟩ (by simp) rfl)
      rw [wanted_some (c := true) rfl rfl rfl fg, if_pos (by rfl)]
      have f3 := hj.base 3 rfl rfl
      exact opMove hK rfl (ev f3) rfl),
    (by
      intro Lq aq wq hd hj Kq hK
      have fg := hj.val 6 38 rfl rfl (by simp) rfl (hd ⟨6, .guard⟩ (by simp) rfl)
      rw [wanted_some (c := true) rfl rfl rfl fg, if_pos (by rfl)]
      have f45 := hj.val 13 45 rfl rfl (by simp) rfl (hd ⟨13, .data⟩ (by simp) rfl)
      exact opLen hK rfl (ev f45) (by kernel_rfl) rfl),
    (by
      intro Lq aq wq hd hj Kq hK
      have fg := hj.val 6 38 rfl rfl (by simp) rfl (hd ⟨6, .guard⟩ (by simp) rfl)
      rw [wanted_some (c := true) rfl rfl rfl fg, if_pos (by rfl)]
      have f44 := hj.val 12 44 rfl rfl (by simp) rfl (hd ⟨12, .data⟩ (by simp) rfl)
      have f46 := hj.val 14 46 rfl rfl (by simp) rfl (hd ⟨14, .data⟩ (by simp) rfl)
      exact opBin hK rfl (ev f44) (ev f46) (guardInt _ _ _ _ _ _ _ _ _) (binAdd _ _ _ _ (IntWalk.i64_in _ (by omega))) rfl),
    (by
      intro Lq aq wq hd hj Kq hK
      have fg := hj.val 6 38 rfl rfl (by simp) rfl (hd ⟨6, .guard⟩ (by simp) rfl)
      rw [wanted_some (c := true) rfl rfl rfl fg, if_pos (by rfl)]
      have f0 := hj.base 0 rfl rfl
      exact opMove hK rfl (ev f0) rfl),
    (by
      intro Lq aq wq hd hj Kq hK
      have fg := hj.val 6 38 rfl rfl (by simp) rfl (hd ⟨6, .guard⟩ (by simp) rfl)
      rw [wanted_some (c := true) rfl rfl rfl fg, if_pos (by rfl)]
      have f48 := hj.val 16 48 rfl rfl (by simp) rfl (hd ⟨16, .data⟩ (by simp) rfl)
      exact opNil hK rfl (ev f48) rfl),
    (by
      intro Lq aq wq hd hj Kq hK
      have fg := hj.val 6 38 rfl rfl (by simp) rfl (hd ⟨6, .guard⟩ (by simp) rfl)
      rw [wanted_some (c := true) rfl rfl rfl fg, if_pos (by rfl)]
      have f49 := hj.val 17 49 rfl rfl (by simp) rfl (hd ⟨17, .data⟩ (by simp) rfl)
      exact opFieldA hK rfl (k := 0) (ev f49) (fun W => by kernel_rfl) rfl),
    (by
      intro Lq aq wq hd hj Kq hK
      have fg := hj.val 6 38 rfl rfl (by simp) rfl (hd ⟨6, .guard⟩ (by simp) rfl)
      rw [wanted_some (c := true) rfl rfl rfl fg, if_pos (by rfl)]
      have f50 := hj.val 18 50 rfl rfl (by simp) rfl (hd ⟨18, .data⟩ (by simp) rfl)
      first
        | exact opLoad hK rfl (ev f50) Try.underlying3 rfl (Ext.cell ((Ext.refl None_ wS).drew.trans0 hj.ext) d0 (fun a => a)) rfl),
    (by
      intro Lq aq wq hd hj Kq hK
      have fg := hj.val 6 38 rfl rfl (by simp) rfl (hd ⟨6, .guard⟩ (by simp) rfl)
      rw [wanted_some (c := true) rfl rfl rfl fg, if_pos (by rfl)]
      have f47 := hj.val 15 47 rfl rfl (by simp) rfl (hd ⟨15, .data⟩ (by simp) rfl)
      have f51 := hj.val 19 51 rfl rfl (by simp) rfl (hd ⟨19, .data⟩ (by simp) rfl)
      exact opBin hK rfl (ev f47) (ev f51) (guardInt _ _ _ _ _ _ _ _ _) (binGt _ _ _ _ _) (congrArg Value.bool (by first | rfl | assumption | (simp; omega) | (simp [*]; done)))),
    (by
      intro Lq aq wq hd hj Kq hK
      rw [if_pos (wanted_none rfl)]
      have f38 := hj.val 6 38 rfl rfl (by simp) rfl (hd ⟨6, .data⟩ (by simp) rfl)
      have f52 := hj.val 20 52 rfl rfl (by simp) rfl (hd ⟨20, .data⟩ (by simp) rfl)
      exact opPick hK rfl (b := true) (ev f38) ((if_pos rfl).trans (ev f52)) rfl),
    trivial⟩ ?fin
  case fin =>
    intro vs w9 hx hg
    have v21 : vs 21 = _ := hg 21 (by decide)
    have X := Lib.hid ((Ext.refl None_ wS).drew.trans0 hx)
    clear hx hg
    simp only [putAll, v21, Nat.reduceAdd, Nat.zero_add]
    simp only [Act.put, List.setIfInBounds_toArray, List.set_cons_succ, List.set_cons_zero]
    go_wp2_with fail
    go_ret
    exact ⟨rfl, Left.same (HD1.out.ext0 X.out) (HX1.out.trans0 X.out)⟩
set_option maxRecDepth 100000 in
set_option maxHeartbeats 8000000 in
theorem DWrite_grow (g : Nat) (D : DS) (M C : Nat → Prop) (n zn : Nat) (hn : n < 64) (hzn : zn ≤ 1048576) (A2 : Option Addr) (c2 : Nat) (p : List Int) (w : World) (h : DiskAt w M C g D) (hc : (countD D).1 = true) (hp : Row w A2 (B8 p)) (hby : Byt p) (hpM : ∀ ad, A2 = some ad → 0 < p.length → ¬ M ad.block) (hwl : D.wait.length ≤ 1099511627776) (hpl : p.length ≤ 140737488355328)
    (h1 : ((fileAt (countD D).2.files n).length : Int) < zn + p.length) (h2 : heldN (countD D).2.files - (fileAt (countD D).2.files n).length + zn + p.length ≤ (countD D).2.quota) : Calls Try.prog 16 #[.pointer (some ⟨g, 0, none⟩), .int .i64 n, .int .i64 zn, .slice A2 p.length c2] w fun e w' => e = .returned (.int .i64 (0)) ∧ Left w w' M C g ({ (countD D).2 with files := (countD D).2.files.set n (wrF (fileAt (countD D).2.files n) zn p), wait := (countD D).2.wait ++ [⟨false, n, zn, p⟩] }) := by
  have HC := Lib.hid (counted_any g D M C w h)
  have hg : M g := by obtain ⟨_, _, _, _, _, _, _, _, h6, _⟩ := h.lay; exact h6.1
  have HG := Lib.hid (show ∀ W, Ext (fun k => k = g) w W → Ext M w W from fun W hx => hx.mono (fun k _ e => e ▸ hg))
  have HGM := Lib.hid hg
  have HTH := Lib.hid (fun W => there_any (n : Int) W)
  rw [show inF (n : Int) = true by simp [inF]; omega] at HTH
  rw [hc] at HC
  have HP := Lib.hid (fun W (hx : Ext M w W) => rowP hp hx hpM)
  have HBYP := Lib.hid hby
  have HPM := Lib.hid hpM
  have hw2 : (countD D).2.wait.length ≤ 1099511627776 := by unfold countD; split; exact hwl; split <;> exact hwl
  obtain ⟨D1, hD1⟩ : ∃ D1, D1 = (countD D).2 := ⟨_, rfl⟩
  rw [← hD1] at HC hw2 h1 h2 ⊢
  clear h hg hc hp hby hpM hwl hD1
  obtain ⟨l, hl⟩ : ∃ l, l = fileAt D1.files n := ⟨_, rfl⟩
  have HFI := Lib.hid hl
  rw [← hl] at h1 h2 ⊢
  clear hl
  go_enter Try.func16, Try.ntmps16
  go_wp2_with (first
    | (go_at_call 50; refine HC.out.mono ?_; rintro e wR ⟨rfl, hd1, hx1⟩; have HD0 := Lib.hid hd1; have HX0 := Lib.hid hx1; clear hd1 hx1)
    | (go_at_call 51; refine (HTH.out _).mono ?_; rintro e wS ⟨rfl, hx2⟩; have HD1 := Lib.hid (HD0.out.ext0 hx2); obtain ⟨bf, bs, A, c, A1, cc1, ⟨d0, d1, d2, d3⟩, df, dfb, hc1, HR1, hcc1, HBY1, hll⟩ := HD1.out.fileN HFI.out (by omega); have HX1 : Hid (Ext M w wS) := Lib.hid ((HG.out _ HX0.out).trans0 hx2); have hq0 := HD1.out.ok.q0; have hq1 := HD1.out.ok.q1; have hhl : l.length ≤ heldN D1.files := HFI.out ▸ HD1.out.has _ (fileAt_mem (by rw [HD1.out.ok.f64]; omega)); have hhb : heldN D1.files ≤ 67108864 := heldN_bound' HD1.out.ok; clear hx2))
  refine wp_region_mem [sv _, sv _, sv _, sv _, sv _, sv (.bool true), sv (.bool true), sv _, sv (.int .i64 (heldN D1.files)), sv _, sv _, sv _, sv _, sv _, sv _, sv _, sv _, sv _, sv _, sv _, sv (.bool false), sv (.bool false)] (by kernel_rfl) rfl rfl rfl rfl ⟨
    (by
      intro Lq aq wq hd hj Kq hK
      rw [if_pos (wanted_none rfl)]
      have f2 := hj.base 2 rfl rfl
      exact opMove hK rfl (ev f2) rfl),
    (by
      intro Lq aq wq hd hj Kq hK
      rw [if_pos (wanted_none rfl)]
      have f3 := hj.base 3 rfl rfl
      exact opMove hK rfl (ev f3) rfl),
    (by
      intro Lq aq wq hd hj Kq hK
      rw [if_pos (wanted_none rfl)]
      have f33 := hj.val 1 33 rfl rfl (by simp) rfl (hd ⟨1, .data⟩ (by simp) rfl)
      exact opLen hK rfl (ev f33) (by kernel_rfl) rfl),
    (by
      intro Lq aq wq hd hj Kq hK
      rw [if_pos (wanted_none rfl)]
      have f32 := hj.val 0 32 rfl rfl (by simp) rfl (hd ⟨0, .data⟩ (by simp) rfl)
      have f34 := hj.val 2 34 rfl rfl (by simp) rfl (hd ⟨2, .data⟩ (by simp) rfl)
      exact opBin hK rfl (ev f32) (ev f34) (guardInt _ _ _ _ _ _ _ _ _) (binAdd _ _ _ _ (IntWalk.i64_in _ (by omega))) rfl),
    (by
      intro Lq aq wq hd hj Kq hK
      rw [if_pos (wanted_none rfl)]
      have f9 := hj.base 9 rfl rfl
      exact opMove hK rfl (ev f9) rfl),
    (by
      intro Lq aq wq hd hj Kq hK
      rw [if_pos (wanted_none rfl)]
      have f35 := hj.val 3 35 rfl rfl (by simp) rfl (hd ⟨3, .data⟩ (by simp) rfl)
      have f36 := hj.val 4 36 rfl rfl (by simp) rfl (hd ⟨4, .data⟩ (by simp) rfl)
      exact opBin hK rfl (ev f35) (ev f36) (guardInt _ _ _ _ _ _ _ _ _) (binGt _ _ _ _ _) (congrArg Value.bool (by first | rfl | assumption | (simp; omega) | (simp [*]; done)))),
    (by
      intro Lq aq wq hd hj Kq hK
      rw [if_pos (wanted_none rfl)]
      have f37 := hj.val 5 37 rfl rfl (by simp) rfl (hd ⟨5, .data⟩ (by simp) rfl)
      exact opMove hK rfl (ev f37) rfl),
    (by
      intro Lq aq wq hd hj Kq hK
      have fg := hj.val 6 38 rfl rfl (by simp) rfl (hd ⟨6, .guard⟩ (by simp) rfl)
      rw [wanted_some (c := true) rfl rfl rfl fg, if_pos (by rfl)]
      have f0 := hj.base 0 rfl rfl
      exact opMove hK rfl (ev f0) rfl),
    (by
      intro Lq aq wq hd hj Kq hK
      have fg := hj.val 6 38 rfl rfl (by simp) rfl (hd ⟨6, .guard⟩ (by simp) rfl)
      rw [wanted_some (c := true) rfl rfl rfl fg, if_pos (by rfl)]
      have f39 := hj.val 7 39 rfl rfl (by simp) rfl (hd ⟨7, .data⟩ (by simp) rfl)
      exact opCall hK Try.func52 (by kernel_rfl) rfl (args := #[.pointer (some ⟨g, 0, none⟩)]) (by simp [ev f39]) (call_of (held_any g D1 M C _ (HD1.out.ext0 ((Ext.refl None_ wS).drew.trans0 hj.ext))))),
    (by
      intro Lq aq wq hd hj Kq hK
      have fg := hj.val 6 38 rfl rfl (by simp) rfl (hd ⟨6, .guard⟩ (by simp) rfl)
      rw [wanted_some (c := true) rfl rfl rfl fg, if_pos (by rfl)]
      have f9 := hj.base 9 rfl rfl
      exact opMove hK rfl (ev f9) rfl),
    (by
      intro Lq aq wq hd hj Kq hK
      have fg := hj.val 6 38 rfl rfl (by simp) rfl (hd ⟨6, .guard⟩ (by simp) rfl)
      rw [wanted_some (c := true) rfl rfl rfl fg, if_pos (by rfl)]
      have f40 := hj.val 8 40 rfl rfl (by simp) rfl (hd ⟨8, .data⟩ (by simp) rfl)
      have f41 := hj.val 9 41 rfl rfl (by simp) rfl (hd ⟨9, .data⟩ (by simp) rfl)
      exact opBin hK rfl (ev f40) (ev f41) (guardInt _ _ _ _ _ _ _ _ _) (binSub _ _ _ _ (IntWalk.i64_in _ (by omega))) rfl),
    (by
      intro Lq aq wq hd hj Kq hK
      have fg := hj.val 6 38 rfl rfl (by simp) rfl (hd ⟨6, .guard⟩ (by simp) rfl)
      rw [wanted_some (c := true) rfl rfl rfl fg, if_pos (by rfl)]
      have f2 := hj.base 2 rfl rfl
      exact opMove hK rfl (ev f2) rfl),
    (by
      intro Lq aq wq hd hj Kq hK
      have fg := hj.val 6 38 rfl rfl (by simp) rfl (hd ⟨6, .guard⟩ (by simp) rfl)
      rw [wanted_some (c := true) rfl rfl rfl fg, if_pos (by rfl)]
      have f42 := hj.val 10 42 rfl rfl (by simp) rfl (hd ⟨10, .data⟩ (by simp) rfl)
      have f43 := hj.val 11 43 rfl rfl (by simp) rfl (hd ⟨11, .data⟩ (by simp) rfl)
      exact opBin hK rfl (ev f42) (ev f43) (guardInt _ _ _ _ _ _ _ _ _) (binAdd _ _ _ _ (IntWalk.i64_in _ (by omega))) rfl),
    (by
      intro Lq aq wq hd hj Kq hK
      have fg := hj.val 6 38 rfl rfl (by simp) rfl (hd ⟨6, .guard⟩ (by simp) rfl)
      rw [wanted_some (c := true) rfl rfl rfl fg, if_pos (by rfl)]
      have f3 := hj.base 3 rfl rfl
      exact opMove hK rfl (ev f3) rfl),
    (by
      intro Lq aq wq hd hj Kq hK
      have fg := hj.val 6 38 rfl rfl (by simp) rfl (hd ⟨6, .guard⟩ (by simp) rfl)
      rw [wanted_some (c := true) rfl rfl rfl fg, if_pos (by rfl)]
      have f45 := hj.val 13 45 rfl rfl (by simp) rfl (hd ⟨13, .data⟩ (by simp) rfl)
      exact opLen hK rfl (ev f45) (by kernel_rfl) rfl),
    (by
      intro Lq aq wq hd hj Kq hK
      have fg := hj.val 6 38 rfl rfl (by simp) rfl (hd ⟨6, .guard⟩ (by simp) rfl)
      rw [wanted_some (c := true) rfl rfl rfl fg, if_pos (by rfl)]
      have f44 := hj.val 12 44 rfl rfl (by simp) rfl (hd ⟨12, .data⟩ (by simp) rfl)
      have f46 := hj.val 14 46 rfl rfl (by simp) rfl (hd ⟨14, .data⟩ (by simp) rfl)
      exact opBin hK rfl (ev f44) (ev f46) (guardInt _ _ _ _ _ _ _ _ _) (binAdd _ _ _ _ (IntWalk.i64_in _ (by omega))) rfl),
    (by
      intro Lq aq wq hd hj Kq hK
      have fg := hj.val 6 38 rfl rfl (by simp) rfl (hd ⟨6, .guard⟩ (by simp) rfl)
      rw [wanted_some (c := true) rfl rfl rfl fg, if_pos (by rfl)]
      have f0 := hj.base 0 rfl rfl
      exact opMove hK rfl (ev f0) rfl),
    (by
      intro Lq aq wq hd hj Kq hK
      have fg := hj.val 6 38 rfl rfl (by simp) rfl (hd ⟨6, .guard⟩ (by simp) rfl)
      rw [wanted_some (c := true) rfl rfl rfl fg, if_pos (by rfl)]
      have f48 := hj.val 16 48 rfl rfl (by simp) rfl (hd ⟨16, .data⟩ (by simp) rfl)
      exact opNil hK rfl (ev f48) rfl),
    (by
      intro Lq aq wq hd hj Kq hK
      have fg := hj.val 6 38 rfl rfl (by simp) rfl (hd ⟨6, .guard⟩ (by simp) rfl)
      rw [wanted_some (c := true) rfl rfl rfl fg, if_pos (by rfl)]
      have f49 := hj.val 17 49 rfl rfl (by simp) rfl (hd ⟨17, .data⟩ (by simp) rfl)
      exact opFieldA hK rfl (k := 0) (ev f49) (fun W => by kernel_rfl) rfl),
    (by
      intro Lq aq wq hd hj Kq hK
      have fg := hj.val 6 38 rfl rfl (by simp) rfl (hd ⟨6, .guard⟩ (by simp) rfl)
      rw [wanted_some (c := true) rfl rfl rfl fg, if_pos (by rfl)]
      have f50 := hj.val 18 50 rfl rfl (by simp) rfl (hd ⟨18, .data⟩ (by simp) rfl)
      first
        | exact opLoad hK rfl (ev f50) Try.underlying3 rfl (Ext.cell ((Ext.refl None_ wS).drew.trans0 hj.ext) d0 (fun a => a)) rfl),
    (by
      intro Lq aq wq hd hj Kq hK
      have fg := hj.val 6 38 rfl rfl (by simp) rfl (hd ⟨6, .guard⟩ (by simp) rfl)
      rw [wanted_some (c := true) rfl rfl rfl fg, if_pos (by rfl)]
      have f47 := hj.val 15 47 rfl rfl (by simp) rfl (hd ⟨15, .data⟩ (by simp) rfl)
      have f51 := hj.val 19 51 rfl rfl (by simp) rfl (hd ⟨19, .data⟩ (by simp) rfl)
      exact opBin hK rfl (ev f47) (ev f51) (guardInt _ _ _ _ _ _ _ _ _) (binGt _ _ _ _ _) (congrArg Value.bool (by first | rfl | assumption | (simp; omega) | (simp [*]; done)))),
    (by
      intro Lq aq wq hd hj Kq hK
      rw [if_pos (wanted_none rfl)]
      have f38 := hj.val 6 38 rfl rfl (by simp) rfl (hd ⟨6, .data⟩ (by simp) rfl)
      have f52 := hj.val 20 52 rfl rfl (by simp) rfl (hd ⟨20, .data⟩ (by simp) rfl)
      exact opPick hK rfl (b := true) (ev f38) ((if_pos rfl).trans (ev f52)) rfl),
    trivial⟩ ?fin
  case fin =>
    intro vs w9 hx hg
    have v21 : vs 21 = _ := hg 21 (by decide)
    have X := Lib.hid ((Ext.refl None_ wS).drew.trans0 hx)
    clear hx hg
    simp only [putAll, v21, Nat.reduceAdd, Nat.zero_add]
    simp only [Act.put, List.setIfInBounds_toArray, List.set_cons_succ, List.set_cons_zero]
    have HD2 := Lib.hid (HD1.out.ext0 X.out)
    have HXU := Lib.hid (HX1.out.trans0 X.out)
    have HR2 := Lib.hid (HR1.out.ext0 X.out)
    have hp20 : zn + p.length ≤ 1048576 := by omega
    have k1 := X.out.cell d1 (fun a => a)
    have k2 := X.out.cell d2 (fun a => a)
    have k3 := X.out.cell d3 (fun a => a)
    have kc := X.out.cell hc1 (fun a => a)
    have kfb : ∀ i, w9.frozen? ⟨bf, i, none⟩ = false := fun i => by
      have hh := X.out.block bf (World.block_lt_of_cell? wS ⟨bf, n, none⟩ hc1) (fun a => a)
      have h0 := dfb i
      simp only [World.frozen?, hh] at h0 ⊢
      exact h0
    clear d0 d1 d2 d3 hc1 df dfb h1 hhl hhb
    clear HC HTH HG
    go_wp2_with fail
    refine wp_region_last [sv _, sv _, sv _, sv _, sv _, sv _, sv _, sv _, sv _, sv _, sv _, sv _, sv _, sv _, sB (fun k => w9.heap.size ≤ k) (wrF l zn p), sv _] (by kernel_rfl) rfl rfl rfl rfl rfl (by decide) ⟨
      (by
        intro Lq aq wq hd hj Kq hK
        rw [if_pos (wanted_none rfl)]
        have f0 := hj.base 0 rfl rfl
        exact opMove hK rfl (ev f0) rfl),
      (by
        intro Lq aq wq hd hj Kq hK
        rw [if_pos (wanted_none rfl)]
        have f54 := hj.val 0 54 rfl rfl (by simp) rfl (hd ⟨0, .data⟩ (by simp) rfl)
        exact opNil hK rfl (ev f54) rfl),
      (by
        intro Lq aq wq hd hj Kq hK
        rw [if_pos (wanted_none rfl)]
        have f55 := hj.val 1 55 rfl rfl (by simp) rfl (hd ⟨1, .data⟩ (by simp) rfl)
        exact opFieldA hK rfl (k := 1) (ev f55) (fun W => by kernel_rfl) rfl),
      (by
        intro Lq aq wq hd hj Kq hK
        rw [if_pos (wanted_none rfl)]
        have f56 := hj.val 2 56 rfl rfl (by simp) rfl (hd ⟨2, .data⟩ (by simp) rfl)
        first
          | exact opLoad hK rfl (ev f56) Try.underlying59 rfl (Ext.cell ((Ext.refl None_ w9).drew.trans0 hj.ext) k1 (fun a => a)) rfl
          | exact opLoad hK rfl (ev f56) Try.underlying59 rfl (Ext.cell ((Ext.refl None_ w9).drew.trans0 hj.ext) kc (fun a => a)) rfl),
      (by
        intro Lq aq wq hd hj Kq hK
        rw [if_pos (wanted_none rfl)]
        have f1 := hj.base 1 rfl rfl
        exact opMove hK rfl (ev f1) rfl),
      (by
        intro Lq aq wq hd hj Kq hK
        rw [if_pos (wanted_none rfl)]
        have f0 := hj.base 0 rfl rfl
        exact opMove hK rfl (ev f0) rfl),
      (by
        intro Lq aq wq hd hj Kq hK
        rw [if_pos (wanted_none rfl)]
        have f59 := hj.val 5 59 rfl rfl (by simp) rfl (hd ⟨5, .data⟩ (by simp) rfl)
        exact opNil hK rfl (ev f59) rfl),
      (by
        intro Lq aq wq hd hj Kq hK
        rw [if_pos (wanted_none rfl)]
        have f60 := hj.val 6 60 rfl rfl (by simp) rfl (hd ⟨6, .data⟩ (by simp) rfl)
        exact opFieldA hK rfl (k := 1) (ev f60) (fun W => by kernel_rfl) rfl),
      (by
        intro Lq aq wq hd hj Kq hK
        rw [if_pos (wanted_none rfl)]
        have f61 := hj.val 7 61 rfl rfl (by simp) rfl (hd ⟨7, .data⟩ (by simp) rfl)
        first
          | exact opLoad hK rfl (ev f61) Try.underlying59 rfl (Ext.cell ((Ext.refl None_ w9).drew.trans0 hj.ext) k1 (fun a => a)) rfl
          | exact opLoad hK rfl (ev f61) Try.underlying59 rfl (Ext.cell ((Ext.refl None_ w9).drew.trans0 hj.ext) kc (fun a => a)) rfl),
      (by
        intro Lq aq wq hd hj Kq hK
        rw [if_pos (wanted_none rfl)]
        have f1 := hj.base 1 rfl rfl
        exact opMove hK rfl (ev f1) rfl),
      (by
        intro Lq aq wq hd hj Kq hK
        rw [if_pos (wanted_none rfl)]
        have f62 := hj.val 8 62 rfl rfl (by simp) rfl (hd ⟨8, .data⟩ (by simp) rfl)
        have f63 := hj.val 9 63 rfl rfl (by simp) rfl (hd ⟨9, .data⟩ (by simp) rfl)
        exact opIndexB hK rfl (j := n) (ev f62) (ev f63) Try.underlying59 infoSl (by omega) (by omega) (by simp) rfl),
      (by
        intro Lq aq wq hd hj Kq hK
        rw [if_pos (wanted_none rfl)]
        have f64 := hj.val 10 64 rfl rfl (by simp) rfl (hd ⟨10, .data⟩ (by simp) rfl)
        first
          | exact opLoad hK rfl (ev f64) Try.underlying22 rfl (Ext.cell ((Ext.refl None_ w9).drew.trans0 hj.ext) k1 (fun a => a)) rfl
          | exact opLoad hK rfl (ev f64) Try.underlying22 rfl (Ext.cell ((Ext.refl None_ w9).drew.trans0 hj.ext) kc (fun a => a)) rfl),
      (by
        intro Lq aq wq hd hj Kq hK
        rw [if_pos (wanted_none rfl)]
        have f2 := hj.base 2 rfl rfl
        exact opMove hK rfl (ev f2) rfl),
      (by
        intro Lq aq wq hd hj Kq hK
        rw [if_pos (wanted_none rfl)]
        have f3 := hj.base 3 rfl rfl
        exact opMove hK rfl (ev f3) rfl),
      (by
        intro Lq aq wq hd hj Kq hK
        rw [if_pos (wanted_none rfl)]
        have f65 := hj.val 11 65 rfl rfl (by simp) rfl (hd ⟨11, .data⟩ (by simp) rfl)
        have f66 := hj.val 12 66 rfl rfl (by simp) rfl (hd ⟨12, .data⟩ (by simp) rfl)
        have f67 := hj.val 13 67 rfl rfl (by simp) rfl (hd ⟨13, .data⟩ (by simp) rfl)
        exact opCall hK Try.func53 (by kernel_rfl) rfl (args := #[.slice A1 l.length cc1, .int .i64 zn, .slice A2 p.length c2]) (by simp [ev f65, ev f66, ev f67]) ((written_any A1 cc1 l zn A2 c2 p _ (HR2.out.ext0 ((Ext.refl None_ w9).drew.trans0 hj.ext)) (HP.out _ (HXU.out.trans0 ((Ext.refl None_ w9).drew.trans0 hj.ext))) hll hzn (by omega)).mono fun e w' ⟨v', h1, h2, h3⟩ => ⟨v', h1, OwnB.mono h2 (fun k _ hk => Nat.le_trans (Ext.size ((Ext.refl None_ w9).drew.trans0 hj.ext)) hk), h3⟩)),
      (by
        intro Lq aq wq hd hj Kq hK
        rw [if_pos (wanted_none rfl)]
        have f57 := hj.val 3 57 rfl rfl (by simp) rfl (hd ⟨3, .data⟩ (by simp) rfl)
        have f58 := hj.val 4 58 rfl rfl (by simp) rfl (hd ⟨4, .data⟩ (by simp) rfl)
        exact opIndexB hK rfl (j := n) (ev f57) (ev f58) Try.underlying59 infoSl (by omega) (by omega) (by simp) rfl),
      trivial⟩ ?fin
    case fin =>
      intro vs wT hx hg
      have v15 : vs 15 = .pointer (some ⟨bf, n, none⟩) := hg 15 (by decide)
      have v14 : OwnB wT (fun k => w9.heap.size ≤ k) (vs 14) (wrF l zn p) := hg 14 (by decide)
      have X2 := Lib.hid ((Ext.refl None_ w9).drew.trans0 hx)
      obtain ⟨Ax, cx, hvx, _⟩ := Own.slice v14
      obtain ⟨fl, hfl⟩ : ∃ fl, fl = wrF l zn p := ⟨_, rfl⟩
      rw [← hfl] at hvx v14
      have HFLE := Lib.hid hfl
      rw [hvx] at v14
      clear hx hg
      simp only [List.dropLast, List.getLast?, List.getLast, Option.toList, putAll, v15, hvx, Nat.reduceAdd, Nat.zero_add]
      simp only [Act.put, List.setIfInBounds_toArray, List.set_cons_succ, List.set_cons_zero]
      have hby2 : Byt fl := hfl ▸ wrF_byt HBY1.out HBYP.out
      have hfl2 : fl.length ≤ 1048576 := by rw [hfl, wrF_length]; omega
      obtain ⟨HN1, HN2⟩ := HD2.out.moreC v14 hby2 X2.out
      have m1 := X2.out.cell k1 (fun a => a)
      have m2 := X2.out.cell k2 (fun a => a)
      have m3 := X2.out.cell k3 (fun a => a)
      have mc := X2.out.cell kc (fun a => a)
      have HNC := Lib.hid (show ∀ k, (C k ∨ (Value.slice Ax fl.length cx).ownBlock = some k) → C k ∨ w9.heap.size ≤ k from fun k hk => hk.imp id (fun h => v14.blk k h))
      obtain ⟨HM1, HM2⟩ := HN1.setFile (bs := bs) m1 HN2 hfl2 n
      have hne : g ≠ bf := (HN1.tabs m1 m2).2.2.2.2.2.2.1
      have mf : wT.frozen? ⟨bf, n, none⟩ = false := by
        have hh := X2.out.block bf (World.block_lt_of_cell? w9 ⟨bf, n, none⟩ kc) (fun a => a)
        have h0 := kfb n
        simp only [World.frozen?, hh] at h0 ⊢
        exact h0
      have n3 : (wT.setCell ⟨bf, n, none⟩ (.slice Ax fl.length cx)).cell? ⟨g, 3, none⟩ = some (.slice A D1.wait.length c) := by
        rw [World.cell?_setCell_other _ _ _ _ (by simp [hne])]; exact m3
      have HM1 := Lib.hid HM1
      have HXV := Lib.hid ((HXU.out.trans0 X2.out).trans HM2 (fun _ _ h => h))
      clear HN1 HN2 HM2 v14 k1 k2 k3 kc kfb m1 m2 m3 hne
      go_wp2_with fail
      obtain ⟨wV, hwV⟩ : ∃ wV, wV = wT.setCell ⟨bf, n, none⟩ (.slice Ax (wrF l zn p).length cx) := ⟨_, rfl⟩
      rw [← hwV]
      rw [← HFLE.out] at hwV
      rw [← hwV] at HM1 HXV n3
      have HSZ : Hid (w9.heap.size ≤ wV.heap.size) := Lib.hid (by rw [hwV]; simp only [World.setCell, Array.size_modify]; exact X2.out.size)
      clear hwV mc mf hvx
      have hmk : ∀ k, (Value.slice A D1.wait.length c).ownBlock = some k → k < wV.heap.size := fun k hk => HM1.out.mlt k (by obtain ⟨_, _, b2, _⟩ := (HM1.out.waits n3).1; exact b2.blk k hk)
      have HMK := Lib.hid hmk
      clear hmk
      refine wp_region_chain [8, 11, 14] [(0, 2), (0, 1), (0, 1), (0, 1), (0, 1), (0, 1), (0, 1), (0, 0), (0, 1), (1, 1), (1, 1), (1, 2), (0, 2), (0, 2), (2, 3)] (SV wV) [⟨fun w => Ext None_ wV.drew w, fun _ _ h hx => h.trans0 hx⟩, ⟨fun w => Ext None_ wV.drew w, fun _ _ h hx => h.trans0 hx⟩, wiT, ⟨fun w => Left wV w M (fun k => C k ∨ (Value.slice Ax fl.length cx).ownBlock = some k) g { D1 with files := D1.files.set n fl, wait := D1.wait ++ [⟨false, n, zn, p⟩] }, fun _ _ h hx => h.trans0 hx⟩] [cv _, cv _, cv _, cv _, cv _, cv _, cv _, cv _, cOwn8 wV p, cAggC wV ⟨false, n, zn, p⟩, cRowC wV ⟨false, n, zn, p⟩, cApp wV g { D1 with files := D1.files.set n fl } ⟨false, n, zn, p⟩ M (fun k => C k ∨ (Value.slice Ax fl.length cx).ownBlock = some k) (.slice A D1.wait.length c), cv _, cv _, cAny] (by kernel_rfl) rfl rfl rfl rfl rfl rfl rfl rfl ((Ext.refl None_ wV.drew : Ext None_ wV.drew wV.drew)) ⟨
        (by
          intro Lq aq wq kq hd hj hlo hhi Kq hK
          rw [if_pos (wanted_none rfl)]
          have f0 := hj.base 0 rfl rfl
          exact opMove hK rfl (ev f0) rfl),
        (by
          intro Lq aq wq kq hd hj hlo hhi Kq hK
          rw [if_pos (wanted_none rfl)]
          have f0 := hj.base 0 rfl rfl
          exact opMove hK rfl (ev f0) rfl),
        (by
          intro Lq aq wq kq hd hj hlo hhi Kq hK
          rw [if_pos (wanted_none rfl)]
          have f71 := hj.val 1 71 rfl rfl (by simp) rfl (hd ⟨1, .data⟩ (by simp) rfl)
          exact opNil hK rfl (ev f71) rfl),
        (by
          intro Lq aq wq kq hd hj hlo hhi Kq hK
          rw [if_pos (wanted_none rfl)]
          have f72 := hj.val 2 72 rfl rfl (by simp) rfl (hd ⟨2, .data⟩ (by simp) rfl)
          exact opFieldA hK rfl (k := 3) (ev f72) (fun W => by kernel_rfl) rfl),
        (by
          intro Lq aq wq kq hd hj hlo hhi Kq hK
          rw [if_pos (wanted_none rfl)]
          have f73 := hj.val 3 73 rfl rfl (by simp) rfl (hd ⟨3, .data⟩ (by simp) rfl)
          have hj0 : Ext None_ wV.drew wq := by
            rcases (show kq = 0 ∨ kq = 1 from by have : kq ≤ 1 := hhi; omega) with rfl | rfl
            · exact hj.inv
            · exact hj.inv
          exact opLoad hK rfl (ev f73) Try.underlying76 rfl (Ext.cell ((Ext.refl None_ wV).drew.trans0 hj0) n3 (fun a => a)) rfl),
        (by
          intro Lq aq wq kq hd hj hlo hhi Kq hK
          rw [if_pos (wanted_none rfl)]
          have f1 := hj.base 1 rfl rfl
          exact opMove hK rfl (ev f1) rfl),
        (by
          intro Lq aq wq kq hd hj hlo hhi Kq hK
          rw [if_pos (wanted_none rfl)]
          have f2 := hj.base 2 rfl rfl
          exact opMove hK rfl (ev f2) rfl),
        (by
          intro Lq aq wq kq hd hj hlo hhi Kq hK
          rw [if_pos (wanted_none rfl)]
          have f3 := hj.base 3 rfl rfl
          exact opMove hK rfl (ev f3) rfl),
        (by
          intro Lq aq wq hd hj Kq hK
          rw [if_pos (wanted_none rfl)]
          have f77 := hj.val 7 77 rfl rfl (by simp) rfl (hd ⟨7, .data⟩ (by simp) rfl)
          refine opApp8 (ok := fun k => wV.heap.size ≤ k) (m := p) (fun v w' h hx => hK v w' h (Ext.trans0 hj.inv hx) (hx.mono (fun _ _ a => a.elim))) rfl rfl (ev f77) (HP.out _ (HXV.out.trans0 ((Ext.refl None_ wV).drew.trans0 (hj.inv : Ext None_ wV.drew wq)))) (by omega) (fun k hk => Nat.le_trans (Ext.size ((Ext.refl None_ wV).drew.trans0 (hj.inv : Ext None_ wV.drew wq))) hk)),
        (by
          intro Lq aq wq kq hd hj hlo hhi Kq hK
          rw [if_pos (wanted_none rfl)]
          have f75 := hj.val 5 75 rfl rfl (by simp) rfl (hd ⟨5, .data⟩ (by simp) rfl)
          have f76 := hj.val 6 76 rfl rfl (by simp) rfl (hd ⟨6, .data⟩ (by simp) rfl)
          obtain ⟨u78, f78, g78⟩ := hj.at_ 8 78 rfl rfl (by simp) (hd ⟨8, .data⟩ (by simp) rfl)
          obtain ⟨Ay, cy, rfl, _⟩ := Own.slice g78
          exact opBuild hK rfl (ps := #[(1, .int .i64 n), (2, .int .i64 zn), (3, .slice Ay p.length cy)]) (by simp [ev f75, ev f76, ev f78]) (by kernel_rfl) ⟨Ay, cy, rfl, g78⟩),
        (by
          intro Lq aq wq kq hd hj hlo hhi Kq hK
          rw [if_pos (wanted_none rfl)]
          obtain ⟨u79, f79, g79⟩ := hj.at_ 9 79 rfl rfl (by simp) (hd ⟨9, .data⟩ (by simp) rfl)
          obtain ⟨Ay, cy, rfl, hoy⟩ := g79
          have hsz : wV.heap.size ≤ wq.heap.size := by
            rcases (show kq = 0 ∨ kq = 1 from by have : kq ≤ 1 := hhi; omega) with rfl | rfl
            · exact Ext.size ((Ext.refl None_ wV).drew.trans0 (hj.inv : Ext None_ wV.drew wq))
            · exact Ext.size ((Ext.refl None_ wV).drew.trans0 (hj.inv : Ext None_ wV.drew wq))
          exact opSlice hK rfl (ps := #[(0, .agg #[.bool false, .int .i64 n, .int .i64 zn, .slice Ay p.length cy])]) (by simp [ev f79]) (chg_slice Ay _ cy _ _ _) ⟨_, Ay, cy, rfl, hsz, (Blk.new wq _ _).row, Own.alloc hoy _⟩),
        (by
          intro Lq aq wq hd hj Kq hK
          rw [if_pos (wanted_none rfl)]
          have f74 := hj.val 4 74 rfl rfl (by simp) rfl (hd ⟨4, .data⟩ (by simp) rfl)
          obtain ⟨u80, f80, g80⟩ := hj.at_ 10 80 rfl rfl (by simp) (hd ⟨10, .data⟩ (by simp) rfl)
          obtain ⟨b, Ay, cy, rfl, hb1, hb2, hb3⟩ := g80
          have hxq : Ext None_ wV wq := ((Ext.refl None_ wV).drew.trans0 (hj.inv : Ext None_ wV.drew wq))
          obtain ⟨m1, m2⟩ := HM1.out.moreC hb3 HBYP.out hxq
          have n3q := hxq.cell n3 (fun a => a)
          obtain ⟨m3, m4⟩ := m1.waits n3q
          exact wpAppC _ _ rfl (.slice A D1.wait.length c) D1.wait ⟨false, n, zn, p⟩ (.slice Ay p.length cy) (ev f74) m3 (some ⟨b, 0, none⟩) (ev f80) hb2 m2 m4 hw2 (fun v' w' h1 h2 => hK v' w' ⟨Nat.le_refl _, fun _ => ⟨wq, _, m1, n3q, h1, h2, hxq, fun k hk => by
            rcases hk with hk | hk
            · exact .inl hk
            · exact .inr (hb3.blk k hk)⟩⟩ trivial (h2.mono (fun k _ hk => HMK.out k hk)))),
        (by
          intro Lq aq wq kq hd hj hlo hhi Kq hK
          rw [if_pos (wanted_none rfl)]
          have f70 := hj.val 0 70 rfl rfl (by simp) rfl (hd ⟨0, .data⟩ (by simp) rfl)
          exact opNil hK rfl (ev f70) rfl),
        (by
          intro Lq aq wq kq hd hj hlo hhi Kq hK
          rw [if_pos (wanted_none rfl)]
          have f82 := hj.val 12 82 rfl rfl (by simp) rfl (hd ⟨12, .data⟩ (by simp) rfl)
          exact opFieldA hK rfl (k := 3) (ev f82) (fun W => by kernel_rfl) rfl),
        (by
          intro Lq aq wq hd hj Kq hK
          rw [if_pos (wanted_none rfl)]
          have f83 := hj.val 13 83 rfl rfl (by simp) rfl (hd ⟨13, .data⟩ (by simp) rfl)
          obtain ⟨u81, f81, g81⟩ := hj.at_ 11 81 rfl rfl (by simp) (hd ⟨11, .data⟩ (by simp) rfl)
          obtain ⟨wa, C1, q1, q2, q3, q4, q5, q6⟩ := g81.2 (Nat.le_refl _)
          obtain ⟨s1, s2, s3, s4, s5⟩ := q1.setWait q2 ⟨hn, hp20⟩ q3 q4
          obtain ⟨_, _, b2, _⟩ := q3
          obtain ⟨Az, cz, rfl, _⟩ := Own.slice b2
          have hml : ∀ k, M k → k < wV.heap.size := HM1.out.mlt
          exact opStoreC hK rfl (ev f83) (ev f81) rfl rfl (by kernel_rfl) s4 (s5 3) trivial ⟨_, C1, s1, (q5.mono (fun _ _ a => a.elim)).trans s2 (fun _ _ h => h), fun k hk => (s3 k hk).imp id (fun h => Nat.le_trans q5.size h), q6⟩ ((Ext.refl _ _).setCell (p := ⟨g, 3, none⟩) (Or.inl (hml g HGM.out)) _)),
        trivial⟩ ?fin
      case fin =>
        intro vs wZ hI hg
        have HI : Hid (Left wV wZ M (fun k => C k ∨ (Value.slice Ax fl.length cx).ownBlock = some k) g { D1 with files := D1.files.set n fl, wait := D1.wait ++ [⟨false, n, zn, p⟩] }) := Lib.hid hI
        clear hI hg
        simp only [putAll, Nat.reduceAdd, Nat.zero_add]
        simp only [Act.put, List.setIfInBounds_toArray, List.set_cons_succ, List.set_cons_zero]
        go_wp2_with fail
        go_ret
        rw [← HFLE.out]
        exact ⟨rfl, HI.out.after HXV.out (fun k hk => .inl hk) (fun k hk => (HNC.out k hk).imp id (fun h => Nat.le_trans (HXU.out.size) h))⟩
set_option maxRecDepth 100000 in
set_option maxHeartbeats 8000000 in
theorem DWrite_fit (g : Nat) (D : DS) (M C : Nat → Prop) (n zn : Nat) (hn : n < 64) (hzn : zn ≤ 1048576) (A2 : Option Addr) (c2 : Nat) (p : List Int) (w : World) (h : DiskAt w M C g D) (hc : (countD D).1 = true) (hp : Row w A2 (B8 p)) (hby : Byt p) (hpM : ∀ ad, A2 = some ad → 0 < p.length → ¬ M ad.block) (hwl : D.wait.length ≤ 1099511627776) (hpl : p.length ≤ 140737488355328)
    (h1 : zn + p.length ≤ (fileAt (countD D).2.files n).length) : Calls Try.prog 16 #[.pointer (some ⟨g, 0, none⟩), .int .i64 n, .int .i64 zn, .slice A2 p.length c2] w fun e w' => e = .returned (.int .i64 (0)) ∧ Left w w' M C g ({ (countD D).2 with files := (countD D).2.files.set n (wrF (fileAt (countD D).2.files n) zn p), wait := (countD D).2.wait ++ [⟨false, n, zn, p⟩] }) := by
  have HC := Lib.hid (counted_any g D M C w h)
  have hg : M g := by obtain ⟨_, _, _, _, _, _, _, _, h6, _⟩ := h.lay; exact h6.1
  have HG := Lib.hid (show ∀ W, Ext (fun k => k = g) w W → Ext M w W from fun W hx => hx.mono (fun k _ e => e ▸ hg))
  have HGM := Lib.hid hg
  have HTH := Lib.hid (fun W => there_any (n : Int) W)
  rw [show inF (n : Int) = true by simp [inF]; omega] at HTH
  rw [hc] at HC
  have HP := Lib.hid (fun W (hx : Ext M w W) => rowP hp hx hpM)
  have HBYP := Lib.hid hby
  have HPM := Lib.hid hpM
  have hw2 : (countD D).2.wait.length ≤ 1099511627776 := by unfold countD; split; exact hwl; split <;> exact hwl
  obtain ⟨D1, hD1⟩ : ∃ D1, D1 = (countD D).2 := ⟨_, rfl⟩
  rw [← hD1] at HC hw2 h1 ⊢
  clear h hg hc hp hby hpM hwl hD1
  obtain ⟨l, hl⟩ : ∃ l, l = fileAt D1.files n := ⟨_, rfl⟩
  have HFI := Lib.hid hl
  rw [← hl] at h1 ⊢
  clear hl
  go_enter Try.func16, Try.ntmps16
  go_wp2_with (first
    | (go_at_call 50; refine HC.out.mono ?_; rintro e wR ⟨rfl, hd1, hx1⟩; have HD0 := Lib.hid hd1; have HX0 := Lib.hid hx1; clear hd1 hx1)
    | (go_at_call 51; refine (HTH.out _).mono ?_; rintro e wS ⟨rfl, hx2⟩; have HD1 := Lib.hid (HD0.out.ext0 hx2); obtain ⟨bf, bs, A, c, A1, cc1, ⟨d0, d1, d2, d3⟩, df, dfb, hc1, HR1, hcc1, HBY1, hll⟩ := HD1.out.fileN HFI.out (by omega); have HX1 : Hid (Ext M w wS) := Lib.hid ((HG.out _ HX0.out).trans0 hx2); have hq0 := HD1.out.ok.q0; have hq1 := HD1.out.ok.q1; have hhl : l.length ≤ heldN D1.files := HFI.out ▸ HD1.out.has _ (fileAt_mem (by rw [HD1.out.ok.f64]; omega)); have hhb : heldN D1.files ≤ 67108864 := heldN_bound' HD1.out.ok; clear hx2))
  refine wp_region_mem [sv _, sv _, sv _, sv _, sv _, sv (.bool false), sv (.bool false), sAny, sAny, sAny, sAny, sAny, sAny, sAny, sAny, sAny, sAny, sAny, sAny, sAny, sAny, sv (.bool false)] (by kernel_rfl) rfl rfl rfl rfl ⟨
    (by
      intro Lq aq wq hd hj Kq hK
      rw [if_pos (wanted_none rfl)]
      have f2 := hj.base 2 rfl rfl
      exact opMove hK rfl (ev f2) rfl),
    (by
      intro Lq aq wq hd hj Kq hK
      rw [if_pos (wanted_none rfl)]
      have f3 := hj.base 3 rfl rfl
      exact opMove hK rfl (ev f3) rfl),
    (by
      intro Lq aq wq hd hj Kq hK
      rw [if_pos (wanted_none rfl)]
      have f33 := hj.val 1 33 rfl rfl (by simp) rfl (hd ⟨1, .data⟩ (by simp) rfl)
      exact opLen hK rfl (ev f33) (by kernel_rfl) rfl),
    (by
      intro Lq aq wq hd hj Kq hK
      rw [if_pos (wanted_none rfl)]
      have f32 := hj.val 0 32 rfl rfl (by simp) rfl (hd ⟨0, .data⟩ (by simp) rfl)
      have f34 := hj.val 2 34 rfl rfl (by simp) rfl (hd ⟨2, .data⟩ (by simp) rfl)
      exact opBin hK rfl (ev f32) (ev f34) (guardInt _ _ _ _ _ _ _ _ _) (binAdd _ _ _ _ (IntWalk.i64_in _ (by omega))) rfl),
    (by
      intro Lq aq wq hd hj Kq hK
      rw [if_pos (wanted_none rfl)]
      have f9 := hj.base 9 rfl rfl
      exact opMove hK rfl (ev f9) rfl),
    (by
      intro Lq aq wq hd hj Kq hK
      rw [if_pos (wanted_none rfl)]
      have f35 := hj.val 3 35 rfl rfl (by simp) rfl (hd ⟨3, .data⟩ (by simp) rfl)
      have f36 := hj.val 4 36 rfl rfl (by simp) rfl (hd ⟨4, .data⟩ (by simp) rfl)
      exact opBin hK rfl (ev f35) (ev f36) (guardInt _ _ _ _ _ _ _ _ _) (binGt _ _ _ _ _) (congrArg Value.bool (by first | rfl | assumption | (simp; omega) | (simp [*]; done)))),
    (by
      intro Lq aq wq hd hj Kq hK
      rw [if_pos (wanted_none rfl)]
      have f37 := hj.val 5 37 rfl rfl (by simp) rfl (hd ⟨5, .data⟩ (by simp) rfl)
      exact opMove hK rfl (ev f37) rfl),
    (by
      intro Lq aq wq hd hj Kq hK
      have fg := hj.val 6 38 rfl rfl (by simp) rfl (hd ⟨6, .guard⟩ (by simp) rfl)
      rw [wanted_some (c := false) rfl rfl rfl fg, if_neg (by decide)]
      exact trivial),
    (by
      intro Lq aq wq hd hj Kq hK
      have fg := hj.val 6 38 rfl rfl (by simp) rfl (hd ⟨6, .guard⟩ (by simp) rfl)
      rw [wanted_some (c := false) rfl rfl rfl fg, if_neg (by decide)]
      exact trivial),
    (by
      intro Lq aq wq hd hj Kq hK
      have fg := hj.val 6 38 rfl rfl (by simp) rfl (hd ⟨6, .guard⟩ (by simp) rfl)
      rw [wanted_some (c := false) rfl rfl rfl fg, if_neg (by decide)]
      exact trivial),
    (by
      intro Lq aq wq hd hj Kq hK
      have fg := hj.val 6 38 rfl rfl (by simp) rfl (hd ⟨6, .guard⟩ (by simp) rfl)
      rw [wanted_some (c := false) rfl rfl rfl fg, if_neg (by decide)]
      exact trivial),
    (by
      intro Lq aq wq hd hj Kq hK
      have fg := hj.val 6 38 rfl rfl (by simp) rfl (hd ⟨6, .guard⟩ (by simp) rfl)
      rw [wanted_some (c := false) rfl rfl rfl fg, if_neg (by decide)]
      exact trivial),
    (by
      intro Lq aq wq hd hj Kq hK
      have fg := hj.val 6 38 rfl rfl (by simp) rfl (hd ⟨6, .guard⟩ (by simp) rfl)
      rw [wanted_some (c := false) rfl rfl rfl fg, if_neg (by decide)]
      exact trivial),
    (by
      intro Lq aq wq hd hj Kq hK
      have fg := hj.val 6 38 rfl rfl (by simp) rfl (hd ⟨6, .guard⟩ (by simp) rfl)
      rw [wanted_some (c := false) rfl rfl rfl fg, if_neg (by decide)]
      exact trivial),
    (by
      intro Lq aq wq hd hj Kq hK
      have fg := hj.val 6 38 rfl rfl (by simp) rfl (hd ⟨6, .guard⟩ (by simp) rfl)
      rw [wanted_some (c := false) rfl rfl rfl fg, if_neg (by decide)]
      exact trivial),
    (by
      intro Lq aq wq hd hj Kq hK
      have fg := hj.val 6 38 rfl rfl (by simp) rfl (hd ⟨6, .guard⟩ (by simp) rfl)
      rw [wanted_some (c := false) rfl rfl rfl fg, if_neg (by decide)]
      exact trivial),
    (by
      intro Lq aq wq hd hj Kq hK
      have fg := hj.val 6 38 rfl rfl (by simp) rfl (hd ⟨6, .guard⟩ (by simp) rfl)
      rw [wanted_some (c := false) rfl rfl rfl fg, if_neg (by decide)]
      exact trivial),
    (by
      intro Lq aq wq hd hj Kq hK
      have fg := hj.val 6 38 rfl rfl (by simp) rfl (hd ⟨6, .guard⟩ (by simp) rfl)
      rw [wanted_some (c := false) rfl rfl rfl fg, if_neg (by decide)]
      exact trivial),
    (by
      intro Lq aq wq hd hj Kq hK
      have fg := hj.val 6 38 rfl rfl (by simp) rfl (hd ⟨6, .guard⟩ (by simp) rfl)
      rw [wanted_some (c := false) rfl rfl rfl fg, if_neg (by decide)]
      exact trivial),
    (by
      intro Lq aq wq hd hj Kq hK
      have fg := hj.val 6 38 rfl rfl (by simp) rfl (hd ⟨6, .guard⟩ (by simp) rfl)
      rw [wanted_some (c := false) rfl rfl rfl fg, if_neg (by decide)]
      exact trivial),
    (by
      intro Lq aq wq hd hj Kq hK
      have fg := hj.val 6 38 rfl rfl (by simp) rfl (hd ⟨6, .guard⟩ (by simp) rfl)
      rw [wanted_some (c := false) rfl rfl rfl fg, if_neg (by decide)]
      exact trivial),
    (by
      intro Lq aq wq hd hj Kq hK
      rw [if_pos (wanted_none rfl)]
      have f38 := hj.val 6 38 rfl rfl (by simp) rfl (hd ⟨6, .data⟩ (by simp) rfl)
      exact opPick hK rfl (b := false) (ev f38) ((if_neg (by decide)).trans (rfl)) rfl),
    trivial⟩ ?fin
  case fin =>
    intro vs w9 hx hg
    have v21 : vs 21 = _ := hg 21 (by decide)
    have X := Lib.hid ((Ext.refl None_ wS).drew.trans0 hx)
    clear hx hg
    simp only [putAll, v21, Nat.reduceAdd, Nat.zero_add]
    simp only [Act.put, List.setIfInBounds_toArray, List.set_cons_succ, List.set_cons_zero]
    have HD2 := Lib.hid (HD1.out.ext0 X.out)
    have HXU := Lib.hid (HX1.out.trans0 X.out)
    have HR2 := Lib.hid (HR1.out.ext0 X.out)
    have hp20 : zn + p.length ≤ 1048576 := by omega
    have k1 := X.out.cell d1 (fun a => a)
    have k2 := X.out.cell d2 (fun a => a)
    have k3 := X.out.cell d3 (fun a => a)
    have kc := X.out.cell hc1 (fun a => a)
    have kfb : ∀ i, w9.frozen? ⟨bf, i, none⟩ = false := fun i => by
      have hh := X.out.block bf (World.block_lt_of_cell? wS ⟨bf, n, none⟩ hc1) (fun a => a)
      have h0 := dfb i
      simp only [World.frozen?, hh] at h0 ⊢
      exact h0
    clear d0 d1 d2 d3 hc1 df dfb h1 hhl hhb
    clear HC HTH HG
    go_wp2_with fail
    refine wp_region_last [sv _, sv _, sv _, sv _, sv _, sv _, sv _, sv _, sv _, sv _, sv _, sv _, sv _, sv _, sB (fun k => w9.heap.size ≤ k) (wrF l zn p), sv _] (by kernel_rfl) rfl rfl rfl rfl rfl (by decide) ⟨
      (by
        intro Lq aq wq hd hj Kq hK
        rw [if_pos (wanted_none rfl)]
        have f0 := hj.base 0 rfl rfl
        exact opMove hK rfl (ev f0) rfl),
      (by
        intro Lq aq wq hd hj Kq hK
        rw [if_pos (wanted_none rfl)]
        have f54 := hj.val 0 54 rfl rfl (by simp) rfl (hd ⟨0, .data⟩ (by simp) rfl)
        exact opNil hK rfl (ev f54) rfl),
      (by
        intro Lq aq wq hd hj Kq hK
        rw [if_pos (wanted_none rfl)]
        have f55 := hj.val 1 55 rfl rfl (by simp) rfl (hd ⟨1, .data⟩ (by simp) rfl)
        exact opFieldA hK rfl (k := 1) (ev f55) (fun W => by kernel_rfl) rfl),
      (by
        intro Lq aq wq hd hj Kq hK
        rw [if_pos (wanted_none rfl)]
        have f56 := hj.val 2 56 rfl rfl (by simp) rfl (hd ⟨2, .data⟩ (by simp) rfl)
        first
          | exact opLoad hK rfl (ev f56) Try.underlying59 rfl (Ext.cell ((Ext.refl None_ w9).drew.trans0 hj.ext) k1 (fun a => a)) rfl
          | exact opLoad hK rfl (ev f56) Try.underlying59 rfl (Ext.cell ((Ext.refl None_ w9).drew.trans0 hj.ext) kc (fun a => a)) rfl),
      (by
        intro Lq aq wq hd hj Kq hK
        rw [if_pos (wanted_none rfl)]
        have f1 := hj.base 1 rfl rfl
        exact opMove hK rfl (ev f1) rfl),
      (by
        intro Lq aq wq hd hj Kq hK
        rw [if_pos (wanted_none rfl)]
        have f0 := hj.base 0 rfl rfl
        exact opMove hK rfl (ev f0) rfl),
      (by
        intro Lq aq wq hd hj Kq hK
        rw [if_pos (wanted_none rfl)]
        have f59 := hj.val 5 59 rfl rfl (by simp) rfl (hd ⟨5, .data⟩ (by simp) rfl)
        exact opNil hK rfl (ev f59) rfl),
      (by
        intro Lq aq wq hd hj Kq hK
        rw [if_pos (wanted_none rfl)]
        have f60 := hj.val 6 60 rfl rfl (by simp) rfl (hd ⟨6, .data⟩ (by simp) rfl)
        exact opFieldA hK rfl (k := 1) (ev f60) (fun W => by kernel_rfl) rfl),
      (by
        intro Lq aq wq hd hj Kq hK
        rw [if_pos (wanted_none rfl)]
        have f61 := hj.val 7 61 rfl rfl (by simp) rfl (hd ⟨7, .data⟩ (by simp) rfl)
        first
          | exact opLoad hK rfl (ev f61) Try.underlying59 rfl (Ext.cell ((Ext.refl None_ w9).drew.trans0 hj.ext) k1 (fun a => a)) rfl
          | exact opLoad hK rfl (ev f61) Try.underlying59 rfl (Ext.cell ((Ext.refl None_ w9).drew.trans0 hj.ext) kc (fun a => a)) rfl),
      (by
        intro Lq aq wq hd hj Kq hK
        rw [if_pos (wanted_none rfl)]
        have f1 := hj.base 1 rfl rfl
        exact opMove hK rfl (ev f1) rfl),
      (by
        intro Lq aq wq hd hj Kq hK
        rw [if_pos (wanted_none rfl)]
        have f62 := hj.val 8 62 rfl rfl (by simp) rfl (hd ⟨8, .data⟩ (by simp) rfl)
        have f63 := hj.val 9 63 rfl rfl (by simp) rfl (hd ⟨9, .data⟩ (by simp) rfl)
        exact opIndexB hK rfl (j := n) (ev f62) (ev f63) Try.underlying59 infoSl (by omega) (by omega) (by simp) rfl),
      (by
        intro Lq aq wq hd hj Kq hK
        rw [if_pos (wanted_none rfl)]
        have f64 := hj.val 10 64 rfl rfl (by simp) rfl (hd ⟨10, .data⟩ (by simp) rfl)
        first
          | exact opLoad hK rfl (ev f64) Try.underlying22 rfl (Ext.cell ((Ext.refl None_ w9).drew.trans0 hj.ext) k1 (fun a => a)) rfl
          | exact opLoad hK rfl (ev f64) Try.underlying22 rfl (Ext.cell ((Ext.refl None_ w9).drew.trans0 hj.ext) kc (fun a => a)) rfl),
      (by
        intro Lq aq wq hd hj Kq hK
        rw [if_pos (wanted_none rfl)]
        have f2 := hj.base 2 rfl rfl
        exact opMove hK rfl (ev f2) rfl),
      (by
        intro Lq aq wq hd hj Kq hK
        rw [if_pos (wanted_none rfl)]
        have f3 := hj.base 3 rfl rfl
        exact opMove hK rfl (ev f3) rfl),
      (by
        intro Lq aq wq hd hj Kq hK
        rw [if_pos (wanted_none rfl)]
        have f65 := hj.val 11 65 rfl rfl (by simp) rfl (hd ⟨11, .data⟩ (by simp) rfl)
        have f66 := hj.val 12 66 rfl rfl (by simp) rfl (hd ⟨12, .data⟩ (by simp) rfl)
        have f67 := hj.val 13 67 rfl rfl (by simp) rfl (hd ⟨13, .data⟩ (by simp) rfl)
        exact opCall hK Try.func53 (by kernel_rfl) rfl (args := #[.slice A1 l.length cc1, .int .i64 zn, .slice A2 p.length c2]) (by simp [ev f65, ev f66, ev f67]) ((written_any A1 cc1 l zn A2 c2 p _ (HR2.out.ext0 ((Ext.refl None_ w9).drew.trans0 hj.ext)) (HP.out _ (HXU.out.trans0 ((Ext.refl None_ w9).drew.trans0 hj.ext))) hll hzn (by omega)).mono fun e w' ⟨v', h1, h2, h3⟩ => ⟨v', h1, OwnB.mono h2 (fun k _ hk => Nat.le_trans (Ext.size ((Ext.refl None_ w9).drew.trans0 hj.ext)) hk), h3⟩)),
      (by
        intro Lq aq wq hd hj Kq hK
        rw [if_pos (wanted_none rfl)]
        have f57 := hj.val 3 57 rfl rfl (by simp) rfl (hd ⟨3, .data⟩ (by simp) rfl)
        have f58 := hj.val 4 58 rfl rfl (by simp) rfl (hd ⟨4, .data⟩ (by simp) rfl)
        exact opIndexB hK rfl (j := n) (ev f57) (ev f58) Try.underlying59 infoSl (by omega) (by omega) (by simp) rfl),
      trivial⟩ ?fin
    case fin =>
      intro vs wT hx hg
      have v15 : vs 15 = .pointer (some ⟨bf, n, none⟩) := hg 15 (by decide)
      have v14 : OwnB wT (fun k => w9.heap.size ≤ k) (vs 14) (wrF l zn p) := hg 14 (by decide)
      have X2 := Lib.hid ((Ext.refl None_ w9).drew.trans0 hx)
      obtain ⟨Ax, cx, hvx, _⟩ := Own.slice v14
      obtain ⟨fl, hfl⟩ : ∃ fl, fl = wrF l zn p := ⟨_, rfl⟩
      rw [← hfl] at hvx v14
      have HFLE := Lib.hid hfl
      rw [hvx] at v14
      clear hx hg
      simp only [List.dropLast, List.getLast?, List.getLast, Option.toList, putAll, v15, hvx, Nat.reduceAdd, Nat.zero_add]
      simp only [Act.put, List.setIfInBounds_toArray, List.set_cons_succ, List.set_cons_zero]
      have hby2 : Byt fl := hfl ▸ wrF_byt HBY1.out HBYP.out
      have hfl2 : fl.length ≤ 1048576 := by rw [hfl, wrF_length]; omega
      obtain ⟨HN1, HN2⟩ := HD2.out.moreC v14 hby2 X2.out
      have m1 := X2.out.cell k1 (fun a => a)
      have m2 := X2.out.cell k2 (fun a => a)
      have m3 := X2.out.cell k3 (fun a => a)
      have mc := X2.out.cell kc (fun a => a)
      have HNC := Lib.hid (show ∀ k, (C k ∨ (Value.slice Ax fl.length cx).ownBlock = some k) → C k ∨ w9.heap.size ≤ k from fun k hk => hk.imp id (fun h => v14.blk k h))
      obtain ⟨HM1, HM2⟩ := HN1.setFile (bs := bs) m1 HN2 hfl2 n
      have hne : g ≠ bf := (HN1.tabs m1 m2).2.2.2.2.2.2.1
      have mf : wT.frozen? ⟨bf, n, none⟩ = false := by
        have hh := X2.out.block bf (World.block_lt_of_cell? w9 ⟨bf, n, none⟩ kc) (fun a => a)
        have h0 := kfb n
        simp only [World.frozen?, hh] at h0 ⊢
        exact h0
      have n3 : (wT.setCell ⟨bf, n, none⟩ (.slice Ax fl.length cx)).cell? ⟨g, 3, none⟩ = some (.slice A D1.wait.length c) := by
        rw [World.cell?_setCell_other _ _ _ _ (by simp [hne])]; exact m3
      have HM1 := Lib.hid HM1
      have HXV := Lib.hid ((HXU.out.trans0 X2.out).trans HM2 (fun _ _ h => h))
      clear HN1 HN2 HM2 v14 k1 k2 k3 kc kfb m1 m2 m3 hne
      go_wp2_with fail
      obtain ⟨wV, hwV⟩ : ∃ wV, wV = wT.setCell ⟨bf, n, none⟩ (.slice Ax (wrF l zn p).length cx) := ⟨_, rfl⟩
      rw [← hwV]
      rw [← HFLE.out] at hwV
      rw [← hwV] at HM1 HXV n3
      have HSZ : Hid (w9.heap.size ≤ wV.heap.size) := Lib.hid (by rw [hwV]; simp only [World.setCell, Array.size_modify]; exact X2.out.size)
      clear hwV mc mf hvx
      have hmk : ∀ k, (Value.slice A D1.wait.length c).ownBlock = some k → k < wV.heap.size := fun k hk => HM1.out.mlt k (by obtain ⟨_, _, b2, _⟩ := (HM1.out.waits n3).1; exact b2.blk k hk)
      have HMK := Lib.hid hmk
      clear hmk
      refine wp_region_chain [8, 11, 14] [(0, 2), (0, 1), (0, 1), (0, 1), (0, 1), (0, 1), (0, 1), (0, 0), (0, 1), (1, 1), (1, 1), (1, 2), (0, 2), (0, 2), (2, 3)] (SV wV) [⟨fun w => Ext None_ wV.drew w, fun _ _ h hx => h.trans0 hx⟩, ⟨fun w => Ext None_ wV.drew w, fun _ _ h hx => h.trans0 hx⟩, wiT, ⟨fun w => Left wV w M (fun k => C k ∨ (Value.slice Ax fl.length cx).ownBlock = some k) g { D1 with files := D1.files.set n fl, wait := D1.wait ++ [⟨false, n, zn, p⟩] }, fun _ _ h hx => h.trans0 hx⟩] [cv _, cv _, cv _, cv _, cv _, cv _, cv _, cv _, cOwn8 wV p, cAggC wV ⟨false, n, zn, p⟩, cRowC wV ⟨false, n, zn, p⟩, cApp wV g { D1 with files := D1.files.set n fl } ⟨false, n, zn, p⟩ M (fun k => C k ∨ (Value.slice Ax fl.length cx).ownBlock = some k) (.slice A D1.wait.length c), cv _, cv _, cAny] (by kernel_rfl) rfl rfl rfl rfl rfl rfl rfl rfl ((Ext.refl None_ wV.drew : Ext None_ wV.drew wV.drew)) ⟨
        (by
          intro Lq aq wq kq hd hj hlo hhi Kq hK
          rw [if_pos (wanted_none rfl)]
          have f0 := hj.base 0 rfl rfl
          exact opMove hK rfl (ev f0) rfl),
        (by
          intro Lq aq wq kq hd hj hlo hhi Kq hK
          rw [if_pos (wanted_none rfl)]
          have f0 := hj.base 0 rfl rfl
          exact opMove hK rfl (ev f0) rfl),
        (by
          intro Lq aq wq kq hd hj hlo hhi Kq hK
          rw [if_pos (wanted_none rfl)]
          have f71 := hj.val 1 71 rfl rfl (by simp) rfl (hd ⟨1, .data⟩ (by simp) rfl)
          exact opNil hK rfl (ev f71) rfl),
        (by
          intro Lq aq wq kq hd hj hlo hhi Kq hK
          rw [if_pos (wanted_none rfl)]
          have f72 := hj.val 2 72 rfl rfl (by simp) rfl (hd ⟨2, .data⟩ (by simp) rfl)
          exact opFieldA hK rfl (k := 3) (ev f72) (fun W => by kernel_rfl) rfl),
        (by
          intro Lq aq wq kq hd hj hlo hhi Kq hK
          rw [if_pos (wanted_none rfl)]
          have f73 := hj.val 3 73 rfl rfl (by simp) rfl (hd ⟨3, .data⟩ (by simp) rfl)
          have hj0 : Ext None_ wV.drew wq := by
            rcases (show kq = 0 ∨ kq = 1 from by have : kq ≤ 1 := hhi; omega) with rfl | rfl
            · exact hj.inv
            · exact hj.inv
          exact opLoad hK rfl (ev f73) Try.underlying76 rfl (Ext.cell ((Ext.refl None_ wV).drew.trans0 hj0) n3 (fun a => a)) rfl),
        (by
          intro Lq aq wq kq hd hj hlo hhi Kq hK
          rw [if_pos (wanted_none rfl)]
          have f1 := hj.base 1 rfl rfl
          exact opMove hK rfl (ev f1) rfl),
        (by
          intro Lq aq wq kq hd hj hlo hhi Kq hK
          rw [if_pos (wanted_none rfl)]
          have f2 := hj.base 2 rfl rfl
          exact opMove hK rfl (ev f2) rfl),
        (by
          intro Lq aq wq kq hd hj hlo hhi Kq hK
          rw [if_pos (wanted_none rfl)]
          have f3 := hj.base 3 rfl rfl
          exact opMove hK rfl (ev f3) rfl),
        (by
          intro Lq aq wq hd hj Kq hK
          rw [if_pos (wanted_none rfl)]
          have f77 := hj.val 7 77 rfl rfl (by simp) rfl (hd ⟨7, .data⟩ (by simp) rfl)
          refine opApp8 (ok := fun k => wV.heap.size ≤ k) (m := p) (fun v w' h hx => hK v w' h (Ext.trans0 hj.inv hx) (hx.mono (fun _ _ a => a.elim))) rfl rfl (ev f77) (HP.out _ (HXV.out.trans0 ((Ext.refl None_ wV).drew.trans0 (hj.inv : Ext None_ wV.drew wq)))) (by omega) (fun k hk => Nat.le_trans (Ext.size ((Ext.refl None_ wV).drew.trans0 (hj.inv : Ext None_ wV.drew wq))) hk)),
        (by
          intro Lq aq wq kq hd hj hlo hhi Kq hK
          rw [if_pos (wanted_none rfl)]
          have f75 := hj.val 5 75 rfl rfl (by simp) rfl (hd ⟨5, .data⟩ (by simp) rfl)
          have f76 := hj.val 6 76 rfl rfl (by simp) rfl (hd ⟨6, .data⟩ (by simp) rfl)
          obtain ⟨u78, f78, g78⟩ := hj.at_ 8 78 rfl rfl (by simp) (hd ⟨8, .data⟩ (by simp) rfl)
          obtain ⟨Ay, cy, rfl, _⟩ := Own.slice g78
          exact opBuild hK rfl (ps := #[(1, .int .i64 n), (2, .int .i64 zn), (3, .slice Ay p.length cy)]) (by simp [ev f75, ev f76, ev f78]) (by kernel_rfl) ⟨Ay, cy, rfl, g78⟩),
        (by
          intro Lq aq wq kq hd hj hlo hhi Kq hK
          rw [if_pos (wanted_none rfl)]
          obtain ⟨u79, f79, g79⟩ := hj.at_ 9 79 rfl rfl (by simp) (hd ⟨9, .data⟩ (by simp) rfl)
          obtain ⟨Ay, cy, rfl, hoy⟩ := g79
          have hsz : wV.heap.size ≤ wq.heap.size := by
            rcases (show kq = 0 ∨ kq = 1 from by have : kq ≤ 1 := hhi; omega) with rfl | rfl
            · exact Ext.size ((Ext.refl None_ wV).drew.trans0 (hj.inv : Ext None_ wV.drew wq))
            · exact Ext.size ((Ext.refl None_ wV).drew.trans0 (hj.inv : Ext None_ wV.drew wq))
          exact opSlice hK rfl (ps := #[(0, .agg #[.bool false, .int .i64 n, .int .i64 zn, .slice Ay p.length cy])]) (by simp [ev f79]) (chg_slice Ay _ cy _ _ _) ⟨_, Ay, cy, rfl, hsz, (Blk.new wq _ _).row, Own.alloc hoy _⟩),
        (by
          intro Lq aq wq hd hj Kq hK
          rw [if_pos (wanted_none rfl)]
          have f74 := hj.val 4 74 rfl rfl (by simp) rfl (hd ⟨4, .data⟩ (by simp) rfl)
          obtain ⟨u80, f80, g80⟩ := hj.at_ 10 80 rfl rfl (by simp) (hd ⟨10, .data⟩ (by simp) rfl)
          obtain ⟨b, Ay, cy, rfl, hb1, hb2, hb3⟩ := g80
          have hxq : Ext None_ wV wq := ((Ext.refl None_ wV).drew.trans0 (hj.inv : Ext None_ wV.drew wq))
          obtain ⟨m1, m2⟩ := HM1.out.moreC hb3 HBYP.out hxq
          have n3q := hxq.cell n3 (fun a => a)
          obtain ⟨m3, m4⟩ := m1.waits n3q
          exact wpAppC _ _ rfl (.slice A D1.wait.length c) D1.wait ⟨false, n, zn, p⟩ (.slice Ay p.length cy) (ev f74) m3 (some ⟨b, 0, none⟩) (ev f80) hb2 m2 m4 hw2 (fun v' w' h1 h2 => hK v' w' ⟨Nat.le_refl _, fun _ => ⟨wq, _, m1, n3q, h1, h2, hxq, fun k hk => by
            rcases hk with hk | hk
            · exact .inl hk
            · exact .inr (hb3.blk k hk)⟩⟩ trivial (h2.mono (fun k _ hk => HMK.out k hk)))),
        (by
          intro Lq aq wq kq hd hj hlo hhi Kq hK
          rw [if_pos (wanted_none rfl)]
          have f70 := hj.val 0 70 rfl rfl (by simp) rfl (hd ⟨0, .data⟩ (by simp) rfl)
          exact opNil hK rfl (ev f70) rfl),
        (by
          intro Lq aq wq kq hd hj hlo hhi Kq hK
          rw [if_pos (wanted_none rfl)]
          have f82 := hj.val 12 82 rfl rfl (by simp) rfl (hd ⟨12, .data⟩ (by simp) rfl)
          exact opFieldA hK rfl (k := 3) (ev f82) (fun W => by kernel_rfl) rfl),
        (by
          intro Lq aq wq hd hj Kq hK
          rw [if_pos (wanted_none rfl)]
          have f83 := hj.val 13 83 rfl rfl (by simp) rfl (hd ⟨13, .data⟩ (by simp) rfl)
          obtain ⟨u81, f81, g81⟩ := hj.at_ 11 81 rfl rfl (by simp) (hd ⟨11, .data⟩ (by simp) rfl)
          obtain ⟨wa, C1, q1, q2, q3, q4, q5, q6⟩ := g81.2 (Nat.le_refl _)
          obtain ⟨s1, s2, s3, s4, s5⟩ := q1.setWait q2 ⟨hn, hp20⟩ q3 q4
          obtain ⟨_, _, b2, _⟩ := q3
          obtain ⟨Az, cz, rfl, _⟩ := Own.slice b2
          have hml : ∀ k, M k → k < wV.heap.size := HM1.out.mlt
          exact opStoreC hK rfl (ev f83) (ev f81) rfl rfl (by kernel_rfl) s4 (s5 3) trivial ⟨_, C1, s1, (q5.mono (fun _ _ a => a.elim)).trans s2 (fun _ _ h => h), fun k hk => (s3 k hk).imp id (fun h => Nat.le_trans q5.size h), q6⟩ ((Ext.refl _ _).setCell (p := ⟨g, 3, none⟩) (Or.inl (hml g HGM.out)) _)),
        trivial⟩ ?fin
      case fin =>
        intro vs wZ hI hg
        have HI : Hid (Left wV wZ M (fun k => C k ∨ (Value.slice Ax fl.length cx).ownBlock = some k) g { D1 with files := D1.files.set n fl, wait := D1.wait ++ [⟨false, n, zn, p⟩] }) := Lib.hid hI
        clear hI hg
        simp only [putAll, Nat.reduceAdd, Nat.zero_add]
        simp only [Act.put, List.setIfInBounds_toArray, List.set_cons_succ, List.set_cons_zero]
        go_wp2_with fail
        go_ret
        rw [← HFLE.out]
        exact ⟨rfl, HI.out.after HXV.out (fun k hk => .inl hk) (fun k hk => (HNC.out k hk).imp id (fun h => Nat.le_trans (HXU.out.size) h))⟩
theorem DWrite_any (g : Nat) (D : DS) (M C : Nat → Prop) (f z : Int) (A2 : Option Addr) (c2 : Nat) (p : List Int) (w : World) (h : DiskAt w M C g D) (hp : Row w A2 (B8 p)) (hby : Byt p) (hpM : ∀ ad, A2 = some ad → 0 < p.length → ¬ M ad.block) (hwl : D.wait.length ≤ 1099511627776) (hpl : p.length ≤ 140737488355328) : Calls Try.prog 16 #[.pointer (some ⟨g, 0, none⟩), .int .i64 f, .int .i64 z, .slice A2 p.length c2] w fun e w' => e = .returned (.int .i64 (writeD D f z p).1) ∧ Left w w' M C g (writeD D f z p).2 := by
  cases hc : (countD D).1 with
  | false => exact DWrite_off g D M C f z A2 c2 p w h hc
  | true =>
    cases ha : atOk f z with
    | false => exact DWrite_arg g D M C f z A2 c2 p w h hc ha
    | true =>
      have ha' := ha
      simp only [atOk, Bool.and_eq_true, decide_eq_true_eq] at ha'
      obtain ⟨hf, hz0, hz1⟩ := ha'
      obtain ⟨hf0, hf1⟩ := inF_true hf
      obtain ⟨n, rfl⟩ : ∃ n : Nat, f = n := ⟨f.toNat, by omega⟩
      obtain ⟨zn, rfl⟩ : ∃ m : Nat, z = m := ⟨z.toNat, by omega⟩
      unfold writeD
      rw [if_pos hc, if_pos ha]
      simp only [Int.toNat_natCast]
      by_cases h1 : ((fileAt (countD D).2.files n).length : Int) < zn + p.length
      · by_cases h2 : (countD D).2.quota < heldN (countD D).2.files - (fileAt (countD D).2.files n).length + zn + p.length
        · rw [if_pos (by simp [fullD, h1, h2])]
          exact DWrite_full g D M C n zn (by omega) (by omega) A2 c2 p w h hc hp hby hpM hwl hpl h1 h2
        · rw [if_neg (by simp only [fullD, h1, h2]; decide)]
          exact DWrite_grow g D M C n zn (by omega) (by omega) A2 c2 p w h hc hp hby hpM hwl hpl h1 (by omega)
      · rw [if_neg (by simp only [fullD, h1]; simp)]
        exact DWrite_fit g D M C n zn (by omega) (by omega) A2 c2 p w h hc hp hby hpM hwl hpl (by omega)
end Go.Proofs.Ytghkgfeamijefaa
