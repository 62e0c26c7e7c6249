/- Package disk, walked: a table copied; Sync. Written by gen_disk5.py. -/
import Derived.Test.YtghkgfeamijefaaDisk4
import Derived.Test.YtghkgfeamijefaaReg4
set_option linter.unusedVariables false
set_option linter.unusedSimpArgs false
namespace Go.Proofs.Ytghkgfeamijefaa
open Go.RowKit B
theorem infoSl : (Try.prog.info? 22).map (·.size) = some 1 := by kernel_rfl
theorem Ext.row (w : World) (g : Nat) (cs : Array Value) : Ext (fun k => k = g) w (w.setRow g cs) := ⟨rfl, rfl, rfl, by simp [World.setRow], fun k hk hn => setRow_other w g k cs hn⟩
theorem wpList_copy_tab {w : World} {ops : Array Oper} {rest : List Oper} {o : Oper} {a : Act} {Q : Exit → Act → World → Prop} (hgd : o.guard = none) (d s : Operand)
    (ho : o.op = .call { callee := .builtin .copy, args := #[d, s], argTypes := #[59, 59] }) (bd bs : Nat) (hd : a.eval d = .slice (some ⟨bd, 0, none⟩) 64 64) (hs : a.eval s = .slice (some ⟨bs, 0, none⟩) 64 64)
    {C : Nat → Prop} {fs fd : List (List Int)} (hT : Fls w C bs fs) (hD : Fls w C bd fd) (h64 : fs.length = 64) (h64d : fd.length = 64) (hC : ¬ C bd)
    (h : ∀ w', Fls w' C bd fs → (∃ cs, Blk w' bd cs 22) → Ext (fun k => k = bd) w w' → wpList Try.prog ops Q rest (a.put o.dst (.int .i64 64)) w') : wpList Try.prog ops Q (o :: rest) a w := by
  obtain ⟨cs, b1, b2, b3⟩ := hT
  obtain ⟨cd, d1, d2, d3⟩ := hD
  have hn : ∀ k, C k → ¬ k = bd := fun k hk e => hC (e ▸ hk)
  have hl : cs.toList.length = 64 := by rw [Array.length_toList, b2, h64]
  have hcells : ∀ v ∈ cs.toList, v.oneCell' = true := by
    intro v hv
    obtain ⟨i, hi⟩ := List.getElem?_of_mem hv
    have hlt := (List.getElem?_eq_some_iff.1 hi).1
    obtain ⟨u, h1, A, c, rfl, _⟩ := b3 i fs[i] (List.getElem?_eq_getElem (by omega))
    rw [← Array.getElem?_toList, hi] at h1
    cases h1
    rfl
  have hrow : (cd.toList.take 0 ++ (cs.toList ++ cd.toList.drop (0 + cs.toList.length))) = cs.toList := by
    rw [List.drop_of_length_le (by rw [Array.length_toList, d2]; omega)]; simp
  have hx := Ext.row w bd cs
  refine wpList_copy_own hgd d s 59 59 ho 22 Try.underlying59 infoSl bd 0 64 64 ⟨bs, 0, none⟩ 64 64 hd hs cd 22 d1 cs.toList (by rw [hl]; rfl) (fun j v hv => ?_) (by rw [hl, d2]; omega) hcells ?_
  · rw [add_plain, b1.cell]; simpa using hv
  · rw [hrow, hl]
    have hB : Blk (w.setRow bd cs.toList.toArray) bd cs 22 := by
      have := setRow_heap w bd cd cs.toList.toArray 22 (0, 0) d1
      simpa [Blk] using this
    exact h _ ⟨cs, hB, b2, fun i l hi => by
      obtain ⟨v, h4, h5⟩ := b3 i l hi
      exact ⟨v, h4, h5.ext (Ext.row w bd _) hn⟩⟩ ⟨cs, hB⟩ (Ext.row w bd _)
def syncD (D : DS) : Int × DS := if (countD D).1 = true then (0, { (countD D).2 with safe := (countD D).2.files, wait := [] }) else (11, (countD D).2)
theorem DiskAt.sync {w w2 : World} {M C : Nat → Prop} {g : Nat} {D : DS} (h : DiskAt w M C g D) {bf bs : Nat} (c1 : w.cell? ⟨g, 1, none⟩ = some (.slice (some ⟨bf, 0, none⟩) 64 64)) (c2 : w.cell? ⟨g, 2, none⟩ = some (.slice (some ⟨bs, 0, none⟩) 64 64)) (hf : Fls w2 C bs D.files) (hx : Ext (fun k => k = bs) w w2) : DiskAt (w2.setCell ⟨g, 3, none⟩ (.slice none 0 0)) M C g { D with safe := D.files, wait := [] } ∧ Ext M w (w2.setCell ⟨g, 3, none⟩ (.slice none 0 0)) := by
  obtain ⟨k, ⟨bf', bs', wv, a1, a2, a3, a4, a5, a6, a7⟩, k3, k4, k5⟩ := h
  have e1 := a1.cell 1
  have e2 := a1.cell 2
  rw [c1] at e1
  rw [c2] at e2
  obtain rfl : bf = bf' := by simpa using e1
  obtain rfl : bs = bs' := by simpa using e2
  have he : Ext (fun k => k = g) w2 (w2.setCell ⟨g, 3, none⟩ (.slice none 0 0)) := (Ext.refl (fun k => k = g) w2).setCell (p := ⟨g, 3, none⟩) (Or.inl rfl) _
  have hC : ∀ k, C k → ¬ k = g := fun k hk e => k3 k hk (e ▸ a6.1)
  have hCs : ∀ k, C k → ¬ k = bs := fun k hk e => k3 k hk (e ▸ a6.2.2)
  have hM : Ext M w (w2.setCell ⟨g, 3, none⟩ (.slice none 0 0)) := (hx.mono (fun k _ e => e ▸ a6.2.2)).trans he (fun k _ e => e ▸ a6.1)
  exact ⟨⟨⟨k.q0, k.q1, k.f64, k.f64, k.fl, k.fl, k.a0, k.a1, fun c hc => by simp at hc⟩, ⟨bf, bs, _, (a1.ext hx a5.2.1).set 3 _, (a2.ext hx a5.2.2 hCs).ext he (fun e => a5.1 e.symm) hC, hf.ext he (fun e => a5.2.1 e.symm) hC, Wts.nil _ _ _, a5, a6, fun k hk => by simp [Value.ownBlock] at hk⟩, k3, fun k hk => Nat.lt_of_lt_of_le (k4 k hk) hM.size, fun k hk => Nat.lt_of_lt_of_le (k5 k hk) hM.size⟩, hM⟩
theorem DiskAt.tabs {w : World} {M C : Nat → Prop} {g : Nat} {D : DS} (h : DiskAt w M C g D) {bf bs : Nat} (c1 : w.cell? ⟨g, 1, none⟩ = some (.slice (some ⟨bf, 0, none⟩) 64 64)) (c2 : w.cell? ⟨g, 2, none⟩ = some (.slice (some ⟨bs, 0, none⟩) 64 64)) : Fls w C bf D.files ∧ Fls w C bs D.safe ∧ M g ∧ M bf ∧ M bs ∧ bf ≠ bs ∧ g ≠ bf ∧ g ≠ bs := by
  obtain ⟨k, ⟨bf', bs', wv, a1, a2, a3, a4, a5, a6, a7⟩, k3, k4, k5⟩ := h
  have e1 := a1.cell 1
  have e2 := a1.cell 2
  rw [c1] at e1
  rw [c2] at e2
  obtain rfl : bf = bf' := by simpa using e1
  obtain rfl : bs = bs' := by simpa using e2
  exact ⟨a2, a3, a6.1, a6.2.1, a6.2.2, a5.2.2, a5.1, a5.2.1⟩
set_option maxRecDepth 100000 in
set_option maxHeartbeats 4000000 in
theorem DSync_any (g : Nat) (D : DS) (M C : Nat → Prop) (w : World) (h : DiskAt w M C g D) : Calls Try.prog 26 #[.pointer (some ⟨g, 0, none⟩)] w fun e w' => e = .returned (.int .i64 (syncD D).1) ∧ DiskAt w' M C g (syncD D).2 ∧ Ext M w w' := by
  have HC := Lib.hid (counted_any g D M C w h)
  have hg : M g := by obtain ⟨_, _, _, _, _, _, _, _, h6, _⟩ := h.lay; exact h6.1
  have HG := Lib.hid (show ∀ W, Ext (fun k => k = g) w W → Ext M w W from fun W hx => hx.mono (fun k _ e => e ▸ hg))
  clear h hg
  unfold syncD
  obtain ⟨⟨b, D1⟩, hD⟩ : ∃ z, z = countD D := ⟨_, rfl⟩
  rw [← hD] at HC ⊢
  clear hD
  simp only at HC ⊢
  cases b with
  | false =>
    rw [if_neg (by decide)]
    go_enter Try.func26, Try.ntmps26
    go_wp2_with (go_at_call 50; refine HC.out.mono ?_; rintro e wS ⟨rfl, hd1, hx1⟩; have HD1 := Lib.hid hd1; have HX1 := Lib.hid hx1; clear hd1 hx1)
    go_ret
    exact ⟨rfl, HD1.out, HG.out _ HX1.out⟩
  | true =>
    rw [if_pos rfl]
    go_enter Try.func26, Try.ntmps26
    go_wp2_with (go_at_call 50; refine HC.out.mono ?_; rintro e wS ⟨rfl, hd1, hx1⟩; obtain ⟨bf, bs, A, c, ⟨d0, d1, d2, d3, d4, d5⟩, df, _⟩ := hd1.cells; have HD1 := Lib.hid hd1; have HX1 := Lib.hid hx1; clear hd1 hx1)
    refine wp_region_last [sv (.pointer (some ⟨g, 0, none⟩)), sv (.pointer (some ⟨g, 0, none⟩)), sv (.pointer (some ⟨g, 2, none⟩)), sv (.slice (some ⟨bs, 0, none⟩) 64 64), sv (.pointer (some ⟨g, 0, none⟩)), sv (.pointer (some ⟨g, 0, none⟩)), sv (.pointer (some ⟨g, 1, none⟩)), sv (.slice (some ⟨bf, 0, none⟩) 64 64)] (by kernel_rfl) rfl rfl rfl rfl rfl (by decide) ⟨?_, ?_, ?_, ?_, ?_, ?_, ?_, ?_, trivial⟩ ?_
    · intro L a w1 hd hj K hK
      rw [if_pos (wanted_none rfl)]
      have f0 := hj.base 0 rfl rfl
      exact opMove hK rfl (ev f0) rfl
    · intro L a w1 hd hj K hK
      rw [if_pos (wanted_none rfl)]
      have f6 := hj.val 0 6 rfl rfl (by simp) rfl (hd ⟨0, .data⟩ (by simp) rfl)
      exact opNil hK rfl (ev f6) rfl
    · intro L a w1 hd hj K hK
      rw [if_pos (wanted_none rfl)]
      have f7 := hj.val 1 7 rfl rfl (by simp) rfl (hd ⟨1, .data⟩ (by simp) rfl)
      exact opField hK rfl (ev f7) (fun W => by kernel_rfl) rfl
    · intro L a w1 hd hj K hK
      rw [if_pos (wanted_none rfl)]
      have f8 := hj.val 2 8 rfl rfl (by simp) rfl (hd ⟨2, .data⟩ (by simp) rfl)
      exact opLoad hK rfl (ev f8) Try.underlying59 rfl (((Ext.refl None_ wS).drew.trans0 hj.ext).cell d2 (fun a => a)) rfl
    · intro L a w1 hd hj K hK
      rw [if_pos (wanted_none rfl)]
      have f0 := hj.base 0 rfl rfl
      exact opMove hK rfl (ev f0) rfl
    · intro L a w1 hd hj K hK
      rw [if_pos (wanted_none rfl)]
      have f10 := hj.val 4 10 rfl rfl (by simp) rfl (hd ⟨4, .data⟩ (by simp) rfl)
      exact opNil hK rfl (ev f10) rfl
    · intro L a w1 hd hj K hK
      rw [if_pos (wanted_none rfl)]
      have f11 := hj.val 5 11 rfl rfl (by simp) rfl (hd ⟨5, .data⟩ (by simp) rfl)
      exact opField hK rfl (ev f11) (fun W => by kernel_rfl) rfl
    · intro L a w1 hd hj K hK
      rw [if_pos (wanted_none rfl)]
      have f12 := hj.val 6 12 rfl rfl (by simp) rfl (hd ⟨6, .data⟩ (by simp) rfl)
      exact opLoad hK rfl (ev f12) Try.underlying59 rfl (((Ext.refl None_ wS).drew.trans0 hj.ext).cell d1 (fun a => a)) rfl
    intro vs w9 hx hg
    have v3 : vs 3 = .slice (some ⟨bs, 0, none⟩) 64 64 := hg 3 (by decide)
    have v7 : vs 7 = .slice (some ⟨bf, 0, none⟩) 64 64 := hg 7 (by decide)
    have X := Lib.hid ((Ext.refl None_ wS).drew.trans0 hx)
    clear hx hg
    simp only [List.dropLast, List.getLast?, List.getLast, Option.toList, putAll, v3, v7, Nat.reduceAdd, Nat.zero_add]
    simp only [Act.put, List.setIfInBounds_toArray, List.set_cons_succ, List.set_cons_zero]
    have HT := HD1.out.ext0 X.out
    have e1 := X.out.cell d1 (fun a => a)
    have e2 := X.out.cell d2 (fun a => a)
    have e3 := X.out.cell d3 (fun a => a)
    obtain ⟨t1, t2, t3, t4, t5, t6, t7, t8⟩ := HT.tabs e1 e2
    have hfr : w9.frozen? ⟨g, 3, none⟩ = false := by obtain ⟨_, _, _, _, _, hf, _⟩ := HT.cells; exact hf 3
    refine wpList_copy_tab rfl (.tmp 9) (.tmp 13) rfl bs bf rfl rfl t1 t2 HT.ok.f64 HT.ok.s64 (fun hc => HT.apart _ hc t5) ?_
    intro w10 hf10 _ hx10
    have HS := Lib.hid (HT.sync e1 e2 hf10 hx10)
    have k3 := hx10.cell e3 t8
    have kf : w10.frozen? ⟨g, 3, none⟩ = false := by
      have hh := hx10.block g HT.lt t8
      simp only [World.frozen?, hh] at hfr ⊢
      exact hfr
    clear HT hf10 hx10 t1 t2 e1 e2 e3 hfr
    go_wp2_with fail
    go_ret
    exact ⟨rfl, HS.out.1, ((HG.out _ HX1.out).trans0 X.out).trans HS.out.2 (fun _ _ h => h)⟩
end Go.Proofs.Ytghkgfeamijefaa
